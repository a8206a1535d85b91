/-
  The operations that change memory: store, append, copy, clear.
-/
import Derived.Test.YtdbkocfbhpgpkaaGreatm07
set_option linter.unusedVariables false
set_option linter.unusedSimpArgs false
namespace Go.Ev
open Go
noncomputable section
theorem Rel.kill{ρ:Ren}{st:St}{w:World}(h:Rel ρ st w){i:Nat}(hi:i<st.next):Good ρ st w ρ (st.put i .dead) w:=by
  have hid:i<2 ^ st.dep:=Nat.lt_of_lt_of_le hi h.lt
  have hget:∀ j,j<st.next→j≠i→(st.put i .dead).heap.get j=st.heap.get j:=fun j hj hne=>
    T.get_set_ne st.dep st.heap i j .dead h.ok hid (Nat.lt_of_lt_of_le hj h.lt) (Ne.symm hne)
  have hgi:(st.put i .dead).heap.get i=.dead:=T.get_set_same st.heap i .dead
  have hlive:∀ j,j<st.next→((st.put i .dead).heap.get j).live=true→j≠i:=by
    rintro j hj hl rfl;rw[hgi] at hl;simp[AO.live] at hl
  have hwr:∀ j,j<st.next→((st.put i .dead).heap.get j).writable=true→j≠i:=by
    rintro j hj hl rfl;rw[hgi] at hl;simp[AO.writable] at hl
  refine⟨.refl ρ,⟨h.ok.set i _,h.lt,h.fresh,?_,?_⟩,rfl,Nat.le_refl _,Nat.le_refl _,rfl,rfl,rfl,fun _ _ _=>rfl,?_,?_,fun _ _=>rfl⟩
  · intro j hj hl
    have hne:=hlive j hj hl
    rw[hget j hj hne] at hl ⊢
    exact h.live j hj hl
  · intro j k M N hj hk hne hl hkw hM hN
    have h1:=hlive j hj hl
    have h2:=hwr k hk hkw
    rw[hget j hj h1] at hl
    rw[hget k hk h2] at hkw
    exact h.inj j k M N hj hk hne hl hkw hM hN
  · intro j M hj hjl hM _
    have h1:=hlive j hj hjl
    rw[hget j hj h1] at hjl ⊢
    exact⟨j,M,hj,hjl,hM,rfl,id⟩
  · intro j hj hd
    by_cases e:j=i
    · subst e;rw[hgi];rfl
    · rw[hget j hj e];exact hd
theorem Rel.move{ρ:Ren}{st:St}{w:World}(h:Rel ρ st w){i:Nat}{L:Loc}(hi:i<st.next)(hw:(st.heap.get i).writable=true)(hρ:ρ i=some L)
    (hr:st.room=true) {o:AO} {ob:Obj} {sh top:Nat} (ho:ORel (ρ.set st.next ⟨L.b,sh,top⟩) ⟨L.b,sh,top⟩ o ob) {w':World}
    (hw':w'={ w with heap:=w.heap.setIfInBounds L.b ob }):Good ρ st w (ρ.set st.next ⟨L.b,sh,top⟩) ((st.put i .dead).alloc o) w':=by
  subst hw'
  have hn:st.next<2 ^ st.dep:=blt_iff.1 hr
  have hid:i<2 ^ st.dep:=Nat.lt_trans hi hn
  have hext:Ext ρ (ρ.set st.next ⟨L.b,sh,top⟩):=Ren.ext_set (h.fresh _ (Nat.le_refl _))
  have hok1:T.Ok st.dep (st.heap.set i .dead):=h.ok.set i _
  have hget:∀ j,j<st.next→j≠i→((st.put i .dead).alloc o).heap.get j=st.heap.get j:=by
    intro j hj hne
    show((st.heap.set i .dead).set st.next o).get j=_
    rw[T.get_set_ne st.dep _ st.next j o hok1 hn (Nat.lt_trans hj hn) (by omega),T.get_set_ne st.dep st.heap i j .dead h.ok hid (Nat.lt_trans hj hn) (Ne.symm hne)]
  have hgi:((st.put i .dead).alloc o).heap.get i=.dead:=by
    show((st.heap.set i .dead).set st.next o).get i=_
    rw[T.get_set_ne st.dep _ st.next i o hok1 hn hid (by omega),T.get_set_same]
  have hgn:((st.put i .dead).alloc o).heap.get st.next=o:=T.get_set_same _ st.next o
  have hold:∀ j,j<st.next→ρ.set st.next ⟨L.b,sh,top⟩ j=ρ j:=fun j hj=>Ren.set_ne (by omega)
  obtain⟨L₀,ob₀,hρ₀,hob₀,_⟩:=h.live i hi (AO.live_of_writable hw)
  obtain rfl:L₀=L:=by rw[hρ] at hρ₀;exact(Option.some.inj hρ₀).symm
  have hLb:L₀.b<w.heap.size:=by
    rcases Nat.lt_or_ge L₀.b w.heap.size with g|g
    · exact g
    · simp[Array.getElem?_eq_none g] at hob₀
  have hlive:∀ j,j<st.next→(((st.put i .dead).alloc o).heap.get j).live=true→j≠i:=by
    rintro j hj hl rfl;rw[hgi] at hl;simp[AO.live] at hl
  have hwr:∀ j,j<st.next→(((st.put i .dead).alloc o).heap.get j).writable=true→j≠i:=by
    rintro j hj hl rfl;rw[hgi] at hl;simp[AO.writable] at hl
  refine⟨hext,⟨hok1.set _ _,by show st.next+1≤2 ^ st.dep;omega,?_,?_,?_⟩,rfl,by show st.next≤st.next+1;omega,by simp,rfl,rfl,rfl,?_,?_,?_,hold⟩
  · intro j hj
    have hj':st.next+1≤j:=hj
    rw[Ren.set_ne (by omega)]
    exact h.fresh j (by omega)
  · intro j hj hl
    have hj':j<st.next+1:=hj
    by_cases e:j=st.next
    · subst e
      exact⟨_,ob,Ren.set_same _ _ _,by simp[hLb],by rw[hgn];exact ho⟩
    · have hne:=hlive j (by omega) hl
      rw[hget j (by omega) hne] at hl ⊢
      obtain⟨M,om,hM,hom,hr⟩:=h.live j (by omega) hl
      refine⟨M,om,hext _ _ hM,?_,hr.ext hext⟩
      have hb:M.b≠L₀.b:=h.inj j i M L₀ (by omega) hi hne hl hw hM hρ
      rw[Array.getElem?_setIfInBounds]
      simp[Ne.symm hb,hom]
  · intro j k M N hj hk hne hl hkw hM hN
    have hj':j<st.next+1:=hj
    have hk':k<st.next+1:=hk
    by_cases e:j=st.next
    · subst e
      have hki:=hwr k (by omega) hkw
      rw[hget k (by omega) hki] at hkw
      rw[hold k (by omega)] at hN
      rw[Ren.set_same] at hM;cases hM
      exact h.inj i k L₀ N hi (by omega) (Ne.symm hki) (AO.live_of_writable hw) hkw hρ hN
    · have hji:=hlive j (by omega) hl
      rw[hget j (by omega) hji] at hl
      rw[hold j (by omega)] at hM
      by_cases e':k=st.next
      · subst e'
        rw[Ren.set_same] at hN;cases hN
        exact h.inj j i M L₀ (by omega) hi hji hl hw hM hρ
      · have hki:=hwr k (by omega) hkw
        rw[hget k (by omega) hki] at hkw
        rw[hold k (by omega)] at hN
        exact h.inj j k M N (by omega) (by omega) hne hl hkw hM hN
  · intro b hb hno
    have hne:L₀.b≠b:=hno i L₀ hi hw hρ
    show(w.heap.setIfInBounds L₀.b ob)[b]? = w.heap[b]?
    rw[Array.getElem?_setIfInBounds]
    simp[hne]
  · intro j M hj hjw hM hMb
    have hj':j<st.next+1:=hj
    by_cases e:j=st.next
    · subst e;rw[Ren.set_same] at hM;cases hM
      exact⟨i,L₀,hi,AO.live_of_writable hw,hρ,rfl,fun _=>hw⟩
    · have hji:=hlive j (by omega) hjw
      rw[hget j (by omega) hji] at hjw ⊢
      rw[hold j (by omega)] at hM
      exact⟨j,M,by omega,hjw,hM,rfl,id⟩
  · intro j hj hd
    by_cases e:j=i
    · subst e;rw[hgi];rfl
    · rw[hget j hj e];exact hd
theorem Good.congr{ρ ρ':Ren}{st st':St}{w w' w'':World}(h:Good ρ st w ρ' st' w')(hh:w''.heap=w'.heap)(hs:SameOut w' w''):Good ρ st w ρ' st' w'':=by
  refine⟨h.ext,⟨h.rel.ok,h.rel.lt,h.rel.fresh,?_,h.rel.inj⟩,h.dep,h.next,by rw[hh];exact h.size,hs.os.trans h.os,hs.tape.trans h.tape,hs.output.trans h.output,?_,h.owns,h.dead,h.old⟩
  · intro i hi hl
    obtain⟨L,ob,h1,h2,h3⟩:=h.rel.live i hi hl
    exact⟨L,ob,h1,by rw[hh];exact h2,h3⟩
  · intro b hb hno;rw[hh];exact h.kept b hb hno
def storeA(P:Program)(t:TypeId)(a x:AV)(st:St):Option St:=
  match a,x.cellsA,szOf P t with
  | .ptr i off,some l,some n=>bif Nat.beq l.length n then match (st.obj i).store off (.l l) with
      | some o=>some (st.put i o)
      | none=>none
    else none
  | _,_,_=>none
theorem store_sound{P:Program}{ρ:Ren}{t:TypeId}{a x:AV}{u v:Value}{st st':St}{w:World}(h:storeA P t a x st=some st')(hu:VR ρ a u)(hv:VR ρ x v)(hR:Rel ρ st w) :
    ∃ w',(Instr.storeAt t u v).run P w=.ok () w'∧Good ρ st w ρ st' w':=by
  unfold storeA at h
  split at h
  · rename_i i off l n hl hn
    cases hb:Nat.beq l.length n with
    | false=>rw[hb] at h;simp at h
    | true =>
      rw[hb] at h;simp only[cond_true] at h
      have hlen:=beq_iff.1 hb
      split at h
      · rename_i o ho
        simp only[Option.some.injEq] at h;subst h
        have hvl:=cellsA_sound hl hv
        obtain⟨L,hL,w',hrun,hg⟩:=hR.store P ho (vs:=v.cells.toList) hvl
        cases hu with | ptr _ _ L' hL'=>
        rw[hL] at hL';cases hL'
        refine⟨w',?_,hg⟩
        have hsz:v.cells.size=n:=by have:=hvl.length;simp at this;omega
        simp only[Instr.storeAt,Instr.sureAddr,Sem.run_bind,Sem.run_pure,Result.andThen_ok,storeVar,run_szOf hn,hsz,ne_eq,not_true,if_false]
        exact hrun
      · cases h
  · cases h
def srcA (es:Nat)(x:AV)(n:Nat)(st:St):Option Blk:=
  bif Nat.beq n 0 then some (.l []) else match x with
  | .slice i off len _ _=>bif Nat.ble n len then(st.obj i).blk off (n * es) else none
  | .str m b=>bif Nat.ble n m && Nat.beq es 1 then some (.b n b) else none
  | _=>none
def lenOfA:AV→Option Nat
  | .snil=>some 0
  | .slice _ _ n _ _=>some n
  | .str n _=>some n
  | _=>none
theorem lenOf_sound{P:Program}{ρ:Ren}{x:AV}{v:Value}{n:Nat}(h:lenOfA x=some n)(hv:VR ρ x v)(w:World):(Builtin.lenOf v).run P w=.ok n w:=by
  cases hv<;>simp only[lenOfA,Option.some.injEq,reduceCtorEq] at h<;>subst h<;>simp only[Builtin.lenOf,Sem.run_pure]
  case str n b s hs=>
    have:=congrArg List.length hs
    rw[List.length_map,bytesL_length] at this
    rw[← this,← ByteArray.size_data];simp
theorem src_sound{P:Program}{ρ:Ren}{es:Nat}{x:AV}{v:Value}{n:Nat}{st:St}{w:World}{b:Blk}(h:srcA es x n st=some b)(hv:VR ρ x v)(hR:Rel ρ st w)(hl:lenOfA x≠none) :
    ∃ vs:List Value,(Builtin.firstCells es n v).run P w=.ok vs.toArray w∧VRs ρ b.toL vs∧vs.length=n * es∧b.len=n * es:=by
  unfold srcA at h
  cases hz:Nat.beq n 0 with
  | true =>
    rw[hz] at h;simp only[cond_true,Option.some.injEq] at h;subst h
    have:=beq_iff.1 hz
    subst this
    refine⟨[],?_,.nil,by simp,by simp[Blk.len]⟩
    cases hv<;>first | (exact absurd rfl hl) | (simp[Builtin.firstCells,loadCells,loadCellsFrom];done)
  | false =>
    rw[hz] at h;simp only[cond_false] at h
    have hn:n≠0:=fun e=>by rw[e] at hz;simp at hz
    split at h
    · rename_i i off len cap o
      cases hb:Nat.ble n len with
      | false=>rw[hb] at h;simp at h
      | true =>
        rw[hb] at h;simp only[cond_true] at h
        have hle:=ble_iff.1 hb
        obtain⟨L,hL,vs,h1,h2,h3,h4⟩:=hR.blk h
        cases hv with
        | slice _ _ _ _ _ cap' L' hL' =>
          rw[hL] at hL';cases hL'
          refine⟨vs,?_,h1,h2,h4⟩
          have:=run_loadCells_list (P:=P) w (L.at off) vs (fun j u hj=>by rw[L.at_add];exact h3 j u hj)
          rw[h2] at this
          simp only[Builtin.firstCells];exact this
        | slice0=>omega
    · rename_i m c
      cases hb:(Nat.ble n m && Nat.beq es 1) with
      | false=>rw[hb] at h;simp at h
      | true =>
        rw[hb] at h;simp only[cond_true,Option.some.injEq] at h;subst h
        simp only[Bool.and_eq_true,ble_iff,beq_iff] at hb
        obtain⟨hle,rfl⟩:=hb
        cases hv with | str _ _ s hs=>
        refine⟨bytesV c n,?_,VRs.bytes _ _ _,by simp[bytesV_length],by simp[Blk.len]⟩
        simp only[Builtin.firstCells,Sem.run_pure]
        congr 1
        apply Array.ext'
        rw[Array.toList_map,ByteArray.data_extract,Array.toList_extract]
        simp only[List.extract,Nat.sub_zero,List.drop_zero]
        have h1:(s.data.toList.take n).map (fun b=>Value.int .u8 (b.toNat:Int))=((s.data.toList.map UInt8.toNat).take n).map fun(x:Nat)=>Value.int .u8 (x:Int):=by
          rw[← List.map_take,List.map_map];rfl
        rw[h1,hs]
        have h2:(bytesL c m).take n=bytesL c n:=by
          apply bytesL_ext (by simp[bytesL_length];omega)
          intro k hk
          rw[List.getElem?_take_of_lt hk,bytesL_get _ _ _ (by omega)]
        rw[h2];rfl
    · cases h
def Blk.join:Blk→Blk→Blk
  | .b n m,.b k q=>.b (n+k) (strJoin n m k q)
  | x,y=>.l (x.toL++y.toL)
theorem Blk.join_toL(x y:Blk):(x.join y).toL=x.toL++y.toL:=by
  cases x<;>cases y<;>simp only[Blk.join,Blk.toL]
  simp only[bytesA,← List.map_append,bytesL_join]
def Blk.norm:Blk→Blk→Blk
  | .l [],.b _ _=>.b 0 0
  | x,_=>x
theorem Blk.norm_toL(x y:Blk):(x.norm y).toL=x.toL:=by
  unfold Blk.norm;split<;>simp[Blk.toL,bytesA,bytesL]
def fitsA(need bytes:Nat):Bool:=Nat.ble ((2 * need+2000) * bytes) 281474976710656 && Nat.ble need 4611686018427387904
theorem growBy_le(newLen:Nat):∀ (r c:Nat),c≤newLen→Builtin.growBy newLen r c≤newLen+(newLen+768) / 4:=by
  intro r
  induction r with
  | zero=>intro c h;simp only[Builtin.growBy];omega
  | succ r ih =>
    intro c h
    simp only[Builtin.growBy]
    split
    · omega
    · by_cases hc:c+(c+768) / 4≤newLen
      · exact ih _ hc
      · cases r with
        | zero=>simp only[Builtin.growBy];omega
        | succ r=>simp only[Builtin.growBy];rw[if_pos (by omega)];omega
theorem nextslicecap_le(need cap:Nat)(h:cap<need):Builtin.nextslicecap need cap≤2 * need+2000:=by
  unfold Builtin.nextslicecap
  split
  · omega
  · split
    · omega
    · have:=growBy_le need 4 cap (by omega);omega
def AO.row:AO→Bool
  | .cells rw _ _ _=>rw
  | .bytes rw _ _=>rw
  | _=>false
def AO.brow:AO→Bool
  | .bytes rw _ _=>rw
  | _=>false
theorem AO.row_of_brow{o:AO}(h:o.brow=true):o.row=true:=by cases o<;>simp_all[AO.brow,AO.row]
def Blk.isB:Blk→Bool
  | .b _ _=>true
  | .l _=>false
def sameRow(o:AO)(x:Blk):Bool:=!o.brow || x.isB
def Blk.one:Blk→Bool
  | .b _ _=>true
  | .l y=>y.all AV.one
theorem one_of_blk{ρ:Ren}{x:Blk}(h:x.one=true){vs:List Value}(hv:VRs ρ x.toL vs):∀ v∈vs,v.oneCell'=true:=by
  cases x with
  | l y=>exact one_of_VRs hv h
  | b n m =>
    have hvs:=VRs_bytesA (ρ:=ρ) (m:=m) (n:=n) (vs:=vs) hv
    subst hvs
    intro v hv
    simp only[bytesV,List.mem_map] at hv
    obtain⟨_,_,rfl⟩:=hv;rfl
def appendA(es bytes:Nat)(s:AV)(n:Nat)(x:Blk)(st:St):Option (AV×St):=
  match s with
  | .snil=>bif Nat.beq n 0 then some (.snil,st) else
      bif fitsA n bytes && st.room then match mkRow x with
        | some o=>some (.slice st.next 0 n n es,st.alloc o)
        | none=>none
      else none
  | .slice i off len cap o=>bif Nat.beq o 0 || Nat.beq o es then
      bif Nat.ble (len+n) cap then
        bif Nat.beq n 0 then some (.slice i off len cap o,st) else match (st.obj i).store (off+len * es) x with
          | some ob=>some (.slice i off (len+n) cap o,st.put i ob)
          | none=>none
      else bif fitsA (len+n) bytes && st.room then match srcA es s len st with
        | some old => match mkRow ((old.norm x).join x) with
          | some ob=>bif Nat.beq o 0 then some (.slice st.next 0 (len+n) (len+n) es,st.alloc ob)
              else bif ((st.obj i).row && sameRow (st.obj i) ((old.norm x).join x)) && x.one then some (.slice st.next 0 (len+n) (len+n) es,(st.put i .dead).alloc ob) else none
          | none=>none
        | none=>none
      else none
    else none
  | _=>none
def tailOf(P:Program)(elem:TypeId)(size:Nat)(base:Option Addr)(sLen sCap n:Nat)(zeros:Bool)(x:Value)(appended:Sem (Array Value)):Sem Value:=do
  let need:=sLen+n
  if need≤sCap then
    let new ← appended
    if let some a:=base then storeCells (a.add (sLen * size)) new.toList
    pure (.slice base need sCap)
  else
    if (need:Int) > IntKind.i64.max∧(zeros∨(← typeInfo elem).bytes=0) then runtimePanic (.error "growslice: len out of range")
    if Builtin.nextslicecap need sCap * (← typeInfo elem).bytes > 2 ^ 48 then(if zeros then runtimePanic (.error "growslice: len out of range") else do
      if !(← Builtin.mayShare size sLen n base x) then mark .noRoom
      unsupported (.resourceLimit "append: a slice or a string whose bytes no memory bears"))
    let newCap ← choose (.appendCap need sCap elem)
    askRoom (newCap * (← typeInfo elem).bytes)
    let old ← Builtin.firstCells size sLen (.slice base sLen sCap)
    let new ← appended
    let rest:=Builtin.zeroCells (← zeroValue elem).cells (newCap-need)
    pure (.slice (some (← newRow elem (old++new++rest))) need newCap)
theorem zeroCells_size(z:Array Value)(n:Nat):(Builtin.zeroCells z n).size=n * z.size:=by simp[Builtin.zeroCells]
theorem run_tail_grow{P:Program}{elem:TypeId}{size:Nat}{base:Option Addr}{sLen sCap n:Nat}{zeros:Bool}{x:Value}{appended:Sem (Array Value)}{w:World}{i:TypeInfo}{z:Value}
    (hi:P.info? elem=some i) (hz:i.zero=some z) (hno:¬sLen+n≤sCap) (hfit:fitsA (sLen+n) i.bytes=true) {old vs:List Value}
    (hold:(Builtin.firstCells size sLen (.slice base sLen sCap)).run P w.drew=.ok old.toArray w.drew) (happ:appended.run P w.drew=.ok vs.toArray w.drew) :
    ∃ cap',sLen+n≤cap'∧(tailOf P elem size base sLen sCap n zeros x appended).run P w =
      .ok (.slice (some ⟨w.heap.size,0,none⟩) (sLen+n) cap') (w.drew.alloc (.cells ((old++vs)++(Builtin.zeroCells z.cells (cap'-(sLen+n))).toList).toArray elem)):=by
  unfold fitsA at hfit
  simp only[Bool.and_eq_true,ble_iff] at hfit
  refine⟨(Question.appendCap (sLen+n) sCap elem).cut (w.tape w.drawn (.appendCap (sLen+n) sCap elem)),by simp only[Question.cut];omega,?_⟩
  have h1:¬(((sLen+n:Nat):Int) > IntKind.i64.max∧(zeros=true∨i.bytes=0)):=by
    rintro⟨h,_⟩;simp[IntKind.max,IntKind.signed,IntKind.bits] at h;omega
  have h2:¬(Builtin.nextslicecap (sLen+n) sCap * i.bytes > 2 ^ 48):=by
    have h3:=nextslicecap_le (sLen+n) sCap (by omega)
    have h4:=Nat.mul_le_mul_right i.bytes h3
    omega
  generalize hcap:(Question.appendCap (sLen+n) sCap elem).cut (w.tape w.drawn (.appendCap (sLen+n) sCap elem))=cap'
  have hch:(choose (.appendCap (sLen+n) sCap elem)).run P w=.ok cap' w.drew:=by
    rw[run_choose];simp[Question.forced,hcap]
  have hti:∀ w:World,(typeInfo elem).run P w=.ok i w:=fun w=>run_typeInfo w hi
  have hzv:∀ w:World,(zeroValue elem).run P w=.ok z w:=fun w=>by simp[zeroValue,hti,hz]
  unfold tailOf
  simp only[hno,if_false,Sem.run_bind,Sem.run_ite,hti,Result.andThen_ok,h1,h2,Sem.run_pure,hch,run_askRoom,hold,happ,hzv,newRow,run_newObj]
  congr 1
  simp only[World.alloc,List.append_toArray]
  congr 2
  simp
theorem Good.alloc'{ρ:Ren}{st:St}{w:World}(h:Rel ρ st w)(hr:st.room=true){o:AO}{ob:Obj}{sh top:Nat}{w':World}(hh:w'.heap=w.heap.push ob)(hs:SameOut w w')
    (ho:ORel (ρ.set st.next ⟨w.heap.size,sh,top⟩) ⟨w.heap.size,sh,top⟩ o ob):Good ρ st w (ρ.set st.next ⟨w.heap.size,sh,top⟩) (st.alloc o) w':=
  (h.alloc hr ho).congr (by rw[hh];rfl) ⟨hs.os,hs.tape,hs.output⟩
theorem mkRow_rel_at{ρ:Ren}{x:Blk}{o:AO}(h:mkRow x=some o){vs:List Value}{C:Array Value}{e:TypeId}{fz:Nat×Nat}{b sh top:Nat}(hv:VRs ρ x.toL vs)
    (hC:∀ (k:Nat) (v:Value),vs[k]? = some v→C[sh+k]? = some v) (h1:sh+vs.length≤top) (h2:top≤C.size) (hfz:free fz top) (hnf:∀ y,x=.l y→free fz (C.size+1)):ORel ρ ⟨b,sh,top⟩ o (.cells C e fz):=by
  cases x with
  | l y =>
    simp only[mkRow] at h
    cases hb:Nat.ble y.length (2 ^ depthOf 64 y.length) with
    | false=>rw[hb] at h;simp at h
    | true =>
      rw[hb] at h;simp only[cond_true,Option.some.injEq] at h;subst h
      have hb1:=ble_iff.1 hb
      have hl:=hv.length
      simp only[Blk.toL] at hl hv
      refine⟨(T.Ok_full _ _).setL,hb1,C,e,fz,rfl,by simp;omega,h2,?_,fun _=>hnf y rfl⟩
      intro k hk
      rw[T.get_setL y _ 0 k (T.Ok_full _ _) (by omega) (by omega),dif_pos (by omega)]
      obtain⟨v,g1,g2⟩:=hv.get k _ (List.getElem?_eq_getElem hk)
      exact⟨v,hC k v g1,by simpa using g2⟩
  | b n m =>
    simp only[mkRow,Option.some.injEq] at h;subst h
    have hvs:=VRs_bytesA (by simpa[Blk.toL] using hv)
    have hl:vs.length=n:=by rw[hvs,bytesV_length]
    refine⟨C,e,fz,rfl,by simp;omega,h2,?_,fun _=>hfz⟩
    intro k hk
    exact hC k _ (by rw[hvs,bytesV_get _ _ _ hk])
theorem src_cells{ρ:Ren}{es j off sLen cap o sCap:Nat}{a:Addr}{st:St}{w:World}{ol:Blk}(h:srcA es (.slice j off sLen cap o) sLen st=some ol)
    (hv:VR ρ (.slice j off sLen cap o) (.slice (some a) sLen sCap)) (hR:Rel ρ st w) :
    ∃ old:List Value,VRs ρ ol.toL old∧old.length=sLen * es∧∀ (k:Nat) (v:Value),old[k]? = some v→w.cell? ⟨a.block,a.off+k,none⟩=some v:=by
  unfold srcA at h
  cases hz:Nat.beq sLen 0 with
  | true =>
    rw[hz] at h;simp only[cond_true,Option.some.injEq] at h;subst h
    have:=beq_iff.1 hz
    subst this
    exact⟨[],.nil,by simp,by intro k v hk;simp at hk⟩
  | false =>
    rw[hz] at h;simp only[cond_false] at h
    cases hb:Nat.ble sLen sLen with
    | false=>rw[hb] at h;simp at h
    | true =>
      rw[hb] at h;simp only[cond_true] at h
      obtain⟨L,hL,vs,h1,h2,h3,_⟩:=hR.blk h
      cases hv with
      | slice _ _ _ _ _ cap' L' hL' =>
        rw[hL] at hL';cases hL'
        refine⟨vs,h1,h2,fun k v hk=>?_⟩
        have:=h3 k v hk
        rw[Loc.at] at this
        rw[show(L.at off).off+k=L.sh+(off+k) by simp only[Loc.at];omega]
        exact this
      | slice0=>simp at hz
theorem append_core{P:Program}{ρ:Ren}{elem:TypeId}{es:Nat}{zl:List AV}{s r:AV}{base:Option Addr}{sLen sCap n:Nat}{zeros:Bool}{x:Value}{b:Blk}{st st':St}{w:World}
    {appended:Sem (Array Value)} {i:TypeInfo} (hi:P.info? elem=some i) (hzl:zeroL P elem=some zl) (hes:i.size=es) (hpos:0<es)
    (h:appendA es i.bytes s n b st=some (r,st')) (hv:VR ρ s (.slice base sLen sCap)) (hR:Rel ρ st w) (hbl:b.len=n * es)
    (happ:∀ w',w'.heap=w.heap→∃ vs:List Value,appended.run P w'=.ok vs.toArray w'∧VRs ρ b.toL vs) :
    ∃ z w' ρ',(tailOf P elem es base sLen sCap n zeros x appended).run P w=.ok z w'∧Good ρ st w ρ' st' w'∧VR ρ' r z:=by
  obtain⟨i',zv,hi',hz,hvz,hzlen,hzsz⟩:=zeroL_some hzl ρ
  rw[hi] at hi';cases hi'
  subst hes
  have grow:∀ (st0:St) (ol:Blk) (ob:AO) (old:List Value),Rel ρ st0 w→st0.next=st.next→st0.room=true→¬sLen+n≤sCap→fitsA (sLen+n) i.bytes=true→0<sLen+n →
      (Builtin.firstCells i.size sLen (.slice base sLen sCap)).run P w.drew=.ok old.toArray w.drew→VRs ρ ol.toL old→old.length=sLen * i.size→mkRow ((ol.norm b).join b)=some ob →
      ∃ z w' ρ',(tailOf P elem i.size base sLen sCap n zeros x appended).run P w=.ok z w'∧Good ρ st0 w ρ' (st0.alloc ob) w'∧VR ρ' (.slice st.next 0 (sLen+n) (sLen+n) i.size) z:=by
    intro st0 ol ob old hR0 hnext hroom hng hfit hlt hold hvo hlo hob
    obtain⟨vs,hrun,hvs⟩:=happ w.drew rfl
    have hvl:vs.length=n * i.size:=by rw[← hvs.length,← Blk.len_eq,hbl]
    obtain⟨cap',hc,hrun'⟩:=run_tail_grow (x:=x) (zeros:=zeros) (base:=base) hi hz hng hfit hold hrun
    have hrl:(Builtin.zeroCells zv.cells (cap'-(sLen+n))).toList.length=(cap'-(sLen+n)) * i.size:=by simp[zeroCells_size,hzsz]
    have hext:=Ren.ext_set (ρ:=ρ) (i:=st0.next) (L:=⟨w.heap.size,0,(old++vs).length+(Builtin.zeroCells zv.cells (cap'-(sLen+n))).toList.length⟩) (hR0.fresh _ (Nat.le_refl _))
    refine⟨_,_,_,hrun',Good.alloc' (sh:=0) (top:=(old++vs).length+(Builtin.zeroCells zv.cells (cap'-(sLen+n))).toList.length) hR0 hroom rfl ⟨rfl,rfl,rfl⟩ ?_,?_⟩
    · refine mkRow_rel hob ?_ (free_none _) (fun _ _=>free_none _)
      rw[Blk.join_toL,Blk.norm_toL]
      exact(hvo.append hvs).ext hext
    · rw[← hnext]
      refine .slice st0.next 0 (sLen+n) (sLen+n) i.size cap' _ (Ren.set_same _ _ _) hlt (Nat.le_refl _) (fun h=>absurd h (by omega)) (fun _=>⟨hc,?_⟩)
      simp only[List.length_append,hlo,hvl,hrl]
      have:cap' * i.size=(sLen+n) * i.size+(cap'-(sLen+n)) * i.size:=by rw[← Nat.add_mul];congr 1;omega
      rw[Nat.add_mul] at this
      omega
  unfold appendA at h
  split at h
  · cases hv
    cases hn:Nat.beq n 0 with
    | true =>
      rw[hn] at h;simp only[cond_true,Option.some.injEq,Prod.mk.injEq] at h
      obtain⟨rfl,rfl⟩:=h
      have:=beq_iff.1 hn
      subst this
      obtain⟨vs,hrun,_⟩:=happ w rfl
      exact⟨.slice none 0 0,w,ρ,by simp[tailOf,hrun],.refl hR,.snil⟩
    | false =>
      rw[hn] at h;simp only[cond_false] at h
      have hn0:n≠0:=fun e=>by rw[e] at hn;simp at hn
      cases hf:(fitsA n i.bytes && st.room) with
      | false=>rw[hf] at h;simp at h
      | true =>
        rw[hf] at h;simp only[cond_true] at h
        simp only[Bool.and_eq_true] at hf
        split at h
        · rename_i o ho
          simp only[Option.some.injEq,Prod.mk.injEq] at h
          obtain⟨rfl,rfl⟩:=h
          have ho':mkRow (((Blk.l []).norm b).join b)=some o:=by
            cases b with
            | l y=>simpa[Blk.norm,Blk.join,Blk.toL] using ho
            | b k m =>
              have:strJoin 0 0 k m=m:=by simp[strJoin]
              simpa[Blk.norm,Blk.join,this] using ho
          have:=grow st (.l []) o [] hR rfl hf.2 (by omega) (by rw[Nat.zero_add];exact hf.1) (by omega) (by simp[Builtin.firstCells]) .nil (by simp) ho'
          rw[Nat.zero_add] at this
          exact this
        · cases h
  · rename_i j off len cap o
    have hsl:sLen=len:=by cases hv<;>rfl
    subst hsl
    cases ho:(Nat.beq o 0 || Nat.beq o i.size) with
    | false=>rw[ho] at h;simp at h
    | true=>
    rw[ho] at h;simp only[cond_true] at h
    simp only[Bool.or_eq_true,beq_iff] at ho
    obtain⟨a,rfl⟩:∃ a,base=some a:=by cases hv<;>exact⟨_,rfl⟩
    cases hb:Nat.ble (sLen+n) cap with
    | true =>
      rw[hb] at h;simp only[cond_true] at h
      have hle:=ble_iff.1 hb
      have hc:cap≤sCap:=by
        cases hv with
        | slice _ _ _ _ _ cap' L hL hp hl h0 h1 =>
          by_cases e0:o=0
          · rw[h0 e0];exact Nat.le_refl _
          · exact(h1 e0).1
        | slice0=>exact Nat.zero_le _
      have hle':sLen+n≤sCap:=by omega
      cases hn:Nat.beq n 0 with
      | true =>
        rw[hn] at h;simp only[cond_true,Option.some.injEq,Prod.mk.injEq] at h
        obtain⟨rfl,rfl⟩:=h
        have:=beq_iff.1 hn
        subst this
        obtain⟨vs,hrun,hvs⟩:=happ w rfl
        have hvl:vs=[]:=by
          have:=hvs.length;rw[← Blk.len_eq,hbl] at this;simp at this
          exact List.eq_nil_of_length_eq_zero this.symm
        subst hvl
        refine⟨.slice (some a) sLen sCap,w,ρ,?_,.refl hR,hv⟩
        have hle'':sLen≤sCap:=by omega
        simp[tailOf,hle'',hrun,storeCells]
      | false =>
        rw[hn] at h;simp only[cond_false] at h
        have hn0:n≠0:=fun e=>by rw[e] at hn;simp at hn
        split at h
        · rename_i ob hob
          simp only[Option.some.injEq,Prod.mk.injEq] at h
          obtain⟨rfl,rfl⟩:=h
          obtain⟨vs,hrun,hvs⟩:=happ w rfl
          obtain⟨L,hL,w',hst,hg⟩:=hR.store P hob hvs
          cases hv with
          | slice _ _ _ _ _ cap' L' hL' hp hl h0 h1 =>
            rw[hL] at hL';cases hL'
            refine⟨.slice (some (L.at off)) (sLen+n) sCap,w',ρ,?_,hg,.slice j off (sLen+n) cap o sCap L hL hp hle h0 h1⟩
            unfold tailOf
            simp only[hle',if_true,Sem.run_bind,Sem.run_ite,hrun,Result.andThen_ok]
            rw[L.at_add]
            simp only[hst,Result.andThen_ok,Sem.run_pure]
          | slice0=>omega
        · cases h
    | false =>
      rw[hb] at h;simp only[cond_false] at h
      have hgt:¬sLen+n≤cap:=fun e=>by rw[ble_iff.2 e] at hb;cases hb
      cases hf:(fitsA (sLen+n) i.bytes && st.room) with
      | false=>rw[hf] at h;simp at h
      | true =>
        rw[hf] at h;simp only[cond_true] at h
        simp only[Bool.and_eq_true] at hf
        split at h
        · rename_i ol hol
          split at h
          · rename_i ob hob
            obtain⟨old,hold,hvo,hlo,hbo⟩:=src_sound (P:=P) hol hv hR.drew (by cases hv<;>simp[lenOfA])
            have hlt:0<sLen+n:=by
              rcases Nat.eq_zero_or_pos (sLen+n) with e|e
              · rw[e] at hgt;exact absurd (Nat.zero_le _) hgt
              · exact e
            cases h0:Nat.beq o 0 with
            | true =>
              rw[h0] at h;simp only[cond_true,Option.some.injEq,Prod.mk.injEq] at h
              obtain⟨rfl,rfl⟩:=h
              have ho0:=beq_iff.1 h0
              subst ho0
              have hng:¬sLen+n≤sCap:=by
                cases hv with
                | slice _ _ _ _ _ cap' L hL hp hl h0 h1=>rw[h0 rfl];exact hgt
                | slice0 _ _ _ cap' a h0 h1=>rw[h0 rfl];exact hgt
              exact grow st ol ob old hR rfl hf.2 hng hf.1 hlt hold hvo hlo hob
            | false =>
              rw[h0] at h;simp only[cond_false] at h
              cases hwr1:(((st.obj j).row && sameRow (st.obj j) ((ol.norm b).join b)) && b.one) with
              | false=>rw[hwr1] at h;simp at h
              | true =>
                rw[hwr1] at h;simp only[cond_true,Option.some.injEq,Prod.mk.injEq] at h
                obtain⟨rfl,rfl⟩:=h
                simp only[Bool.and_eq_true] at hwr1
                obtain⟨⟨hwr,hsame⟩,hbone⟩:=hwr1
                have ho0:o≠0:=fun e=>by rw[e] at h0;simp at h0
                have hoe:o=i.size:=by rcases ho with ho | ho<;>omega
                have hwr':(st.obj j).writable=true:=by cases hj:st.obj j<;>rw[hj] at hwr<;>simp_all[AO.row,AO.writable]
                obtain⟨hj,hobj⟩:=St.obj_live (AO.live_of_writable hwr')
                rw[hobj] at hwr hwr' hsame
                by_cases hin:sLen+n≤sCap
                ·
                  obtain⟨L,ob₀,hL,hob₀,hrel⟩:=hR.live j hj (AO.live_of_writable hwr')
                  obtain⟨C,e,fz,rfl,htop,hfz,hnf⟩:∃ C e fz,ob₀=.cells C e fz∧L.top≤C.size∧free fz L.top∧∀ y,(ol.norm b).join b=.l y→free fz (C.size+1):=by
                    cases hj':st.heap.get j with
                    | dead=>rw[hj'] at hwr;simp[AO.row] at hwr
                    | map es=>rw[hj'] at hwr;simp[AO.row] at hwr
                    | loop _ _ _ _ _ _=>rw[hj'] at hwr;simp[AO.row] at hwr
                    | box _=>rw[hj'] at hwr;simp[AO.row] at hwr
                    | cells rw sz d t =>
                      rw[hj'] at hrel hwr
                      obtain⟨_,_,C,e,fz,hC,_,h3,_,h4⟩:=hrel
                      have h5:=h4 (by simpa[AO.row] using hwr)
                      exact⟨C,e,fz,hC,h3,h5.mono (by omega),fun _ _=>h5⟩
                    | bytes rw sz m =>
                      rw[hj'] at hrel hwr
                      obtain⟨C,e,fz,hC,_,h3,_,h4⟩:=hrel
                      refine⟨C,e,fz,hC,h3,h4 (by simpa[AO.row] using hwr),fun y hy=>?_⟩
                      rw[hj',hy] at hsame
                      simp only[AO.row] at hwr
                      simp[sameRow,AO.brow,Blk.isB,hwr] at hsame
                  obtain⟨ha,hat,hal⟩:a=⟨L.b,a.off,none⟩∧a.off+sCap * i.size≤L.top∧a.block=L.b:=by
                    cases hv with
                    | slice _ _ _ _ _ cap' L' hL' hp hl g0 g1 =>
                      rw[hL] at hL';cases hL'
                      have:=(g1 ho0).2
                      rw[hoe] at this
                      exact⟨rfl,this,rfl⟩
                    | slice0 _ _ _ cap' a g0 g1 =>
                      obtain⟨L',hL',q1,q2,q3,q4⟩:=g1 ho0
                      rw[hL] at hL';cases hL'
                      rw[hoe] at q4
                      refine⟨?_,q4,q1⟩
                      cases a;simp_all
                  obtain⟨old',hvo',hlo',hcell⟩:=src_cells hol hv hR
                  obtain⟨vs,hrun,hvs⟩:=happ w rfl
                  have hvl:vs.length=n * i.size:=by rw[← hvs.length,← Blk.len_eq,hbl]
                  have hone:∀ v∈vs,v.oneCell'=true:=one_of_blk hbone hvs
                  have hmul:sLen * i.size+n * i.size≤sCap * i.size:=by rw[← Nat.add_mul];exact Nat.mul_le_mul_right _ hin
                  have hst:=run_storeCells_block (P:=P) L.b (a.off+sLen * i.size) e fz vs 0 C w hob₀ (by omega) hone (fun k h1 h2=>hfz.2 k (by omega))
                  refine⟨.slice (some a) (sLen+n) sCap,_,ρ.set st.next ⟨L.b,a.off,L.top⟩,?_,hR.move hj hwr' hL hf.2 (ob:=.cells (putL C (a.off+sLen * i.size+0) vs) e fz) ?_ rfl,?_⟩
                  · unfold tailOf
                    simp only[hin,if_true,Sem.run_bind,Sem.run_ite,hrun,Result.andThen_ok]
                    have hadd:a.add (sLen * i.size)=⟨L.b,a.off+sLen * i.size,none⟩:=by
                      rw[ha];unfold Addr.add;split
                      · rename_i hz;rw[hz];rfl
                      · rfl
                    rw[hadd]
                    simp only[hst,Result.andThen_ok,Sem.run_pure]
                  · refine mkRow_rel_at hob (vs:=old' ++ vs) ?_ ?_ ?_ ?_ hfz (fun y hy=>by rw[putL_size];exact hnf y hy)
                    · rw[Blk.join_toL,Blk.norm_toL]
                      exact(hvo'.append hvs).ext (Ren.ext_set (hR.fresh _ (Nat.le_refl _)))
                    · intro k v hk
                      rw[putL_get _ _ _ _ (by omega)]
                      by_cases hkl:k<sLen * i.size
                      · rw[if_neg (by omega)]
                        rw[List.getElem?_append_left (by omega)] at hk
                        have:=hcell k v hk
                        rw[hal,cell?_of_block hob₀] at this
                        exact this
                      · rw[List.getElem?_append_right (by omega)] at hk
                        have hlt2:k-old'.length<vs.length:=(List.getElem?_eq_some_iff.1 hk).1
                        rw[if_pos (by omega)]
                        rw[show a.off+k-(a.off+sLen * i.size+0)=k-old'.length by omega];exact hk
                    · rw[List.length_append,hlo',hvl];omega
                    · rw[putL_size];exact htop
                  · rw[ha]
                    exact .slice st.next 0 (sLen+n) (sLen+n) i.size sCap ⟨L.b,a.off,L.top⟩ (Ren.set_same _ _ _) hlt (Nat.le_refl _) (fun h=>absurd h (by omega)) (fun _=>⟨hin,by simpa using hat⟩)
                · obtain⟨z,w',ρ',g1,g2,g3⟩:=grow (st.put j .dead) ol ob old (hR.kill hj).rel rfl hf.2 hin hf.1 hlt hold hvo hlo hob
                  exact⟨z,w',ρ',g1,(hR.kill hj).trans g2,g3⟩
          · cases h
        · cases h
  · cases h
end
end Go.Ev
