/-
  slices.Sorted(maps.Keys(m)), m with int keys.
-/
import Derived.Shelf.SlIterI.Nil
import Derived.Shelf.SortM.Plain
import Derived.Shelf.SortM.SortNone
import Derived.Ground.GgzProg
import Derived.Ground.SlgmProg
import Derived.Shelf.SlGeneric
import Derived.Test.YtdbkocfbhpgpkaaGreatProg
import Derived.Test.YtdbkocfbhpgpkaaGreatb06
import Derived.Maps.Own
import Derived.Test.YtdbkocfbhpgpkaaGreatb05
import Derived.Test.YtdbkocfbhpgpkaaGreatb03
import Derived.Tactics
import Derived.OrdersIn
import Derived.TacticsIn
import Derived.RangeFuncLeaves
import Derived.RangeFuncRecord
import Derived.RangeFuncNested
import Derived.RecoverIn
import Derived.Laws.LoneSync
import Derived.Lib.Bytealg
import Derived.Lib.SlKeysI
import Derived.Laws.AppendOwn
import Derived.KernelRfl
set_option linter.unusedVariables false
set_option linter.unusedSimpArgs false
namespace Go.Proofs
open Go.Shelf
def Tryz.keys134_ren:Go.Shelf.Ren:=⟨fun | 7=>134 | 10=>220 | n=>n,fun | 23=>191 | 26=>3 | 3=>33 | 28=>196 | 0=>0 | 27=>195 | 33=>27 | 4=>4 | n=>n,fun | n=>n⟩
theorem Tryz.keys134:Go.Proofs.SlLaysZI.n7 Tryz.prog Tryz.keys134_ren:={
  mixed:=by kernel_rfl
  f7:=⟨Tryz.f134.name,by decide,Tryz.func134.trans (congrArg some (by kernel_rfl))⟩
  f10:=⟨Tryz.f220.name,by decide,Tryz.func220.trans (congrArg some (by kernel_rfl))⟩
  t0:=Tryz.underlying0
  a0:=Tryz.isAgg0
  z0:=Tryz.sizeOf0
  v0:=Tryz.zeroValue0
  t4:=Tryz.underlying4
  a4:=Tryz.isAgg4
  z4:=Tryz.sizeOf4
  v4:=Tryz.zeroValue4
  t23:=Tryz.underlying191
  a23:=Tryz.isAgg191
  z23:=Tryz.sizeOf191
  v23:=Tryz.zeroValue191
  t26:=Tryz.underlying3
  a26:=Tryz.isAgg3
  z26:=Tryz.sizeOf3
  v26:=Tryz.zeroValue3
  t27:=Tryz.underlying195
  a27:=Tryz.isAgg195
  z27:=Tryz.sizeOf195
  v27:=Tryz.zeroValue195
  t28:=Tryz.underlying196
  a28:=Tryz.isAgg196
  z28:=Tryz.sizeOf196
  v28:=Tryz.zeroValue196
  t33:=Tryz.underlying27
  a33:=Tryz.isAgg27
  z33:=Tryz.sizeOf27
  v33:=Tryz.zeroValue27 }
def Tryz.keys309_ren:Go.Shelf.Ren:=⟨fun | 7=>309 | 10=>336 | n=>n,fun | 23=>252 | 26=>3 | 3=>3 | 28=>196 | 0=>0 | 27=>195 | 33=>27 | 4=>4 | n=>n,fun | n=>n⟩
theorem Tryz.keys309:Go.Proofs.SlLaysZI.n7 Tryz.prog Tryz.keys309_ren:={
  mixed:=by kernel_rfl
  f7:=⟨Tryz.f309.name,by decide,Tryz.func309.trans (congrArg some (by kernel_rfl))⟩
  f10:=⟨Tryz.f336.name,by decide,Tryz.func336.trans (congrArg some (by kernel_rfl))⟩
  t0:=Tryz.underlying0
  a0:=Tryz.isAgg0
  z0:=Tryz.sizeOf0
  v0:=Tryz.zeroValue0
  t4:=Tryz.underlying4
  a4:=Tryz.isAgg4
  z4:=Tryz.sizeOf4
  v4:=Tryz.zeroValue4
  t23:=Tryz.underlying252
  a23:=Tryz.isAgg252
  z23:=Tryz.sizeOf252
  v23:=Tryz.zeroValue252
  t26:=Tryz.underlying3
  a26:=Tryz.isAgg3
  z26:=Tryz.sizeOf3
  v26:=Tryz.zeroValue3
  t27:=Tryz.underlying195
  a27:=Tryz.isAgg195
  z27:=Tryz.sizeOf195
  v27:=Tryz.zeroValue195
  t28:=Tryz.underlying196
  a28:=Tryz.isAgg196
  z28:=Tryz.sizeOf196
  v28:=Tryz.zeroValue196
  t33:=Tryz.underlying27
  a33:=Tryz.isAgg27
  z33:=Tryz.sizeOf27
  v33:=Tryz.zeroValue27 }
def Tryz.sorted133_ren:Go.Shelf.Ren:=⟨fun | 6=>133 | 8=>218 | 9=>219 | 11=>262 | 13=>264 | 12=>263 | 23=>306 | 24=>307 | 14=>297 | 15=>298 | 16=>299 | 17=>300 | 18=>301 | 19=>302 | 20=>303 | 21=>304 | 22=>305 | 25=>329 | 26=>330 | 27=>331 | 28=>332 | 29=>333 | 30=>334 | 31=>347 | n=>n,fun | 26=>3 | 28=>196 | 24=>22 | 0=>0 | 3=>3 | 37=>213 | 48=>212 | 50=>110 | 4=>4 | 40=>388 | 39=>387 | 45=>333 | 5=>5 | 9=>9 | 51=>412 | 55=>416 | 57=>425 | 58=>246 | 33=>27 | n=>n,fun | n=>n⟩
theorem Tryz.sorted133:Go.Proofs.SlLaysZI.n6 Tryz.prog Tryz.sorted133_ren:={
  mixed:=by kernel_rfl
  f6:=⟨Tryz.f133.name,by decide,Tryz.func133.trans (congrArg some (by kernel_rfl))⟩
  f8:=⟨Tryz.f218.name,by decide,Tryz.func218.trans (congrArg some (by kernel_rfl))⟩
  f11:=⟨Tryz.f262.name,by decide,Tryz.func262.trans (congrArg some (by kernel_rfl))⟩
  t0:=Tryz.underlying0
  a0:=Tryz.isAgg0
  z0:=Tryz.sizeOf0
  v0:=Tryz.zeroValue0
  t24:=Tryz.underlying22
  a24:=Tryz.isAgg22
  z24:=Tryz.sizeOf22
  v24:=Tryz.zeroValue22
  t26:=Tryz.underlying3
  a26:=Tryz.isAgg3
  z26:=Tryz.sizeOf3
  v26:=Tryz.zeroValue3
  t28:=Tryz.underlying196
  a28:=Tryz.isAgg196
  z28:=Tryz.sizeOf196
  v28:=Tryz.zeroValue196
  i26:=by kernel_rfl }
def Tryz.sort219_ren:Go.Shelf.Ren:=⟨fun | 5=>219 | 8=>264 | 7=>263 | 19=>306 | 20=>307 | 10=>297 | 11=>298 | 12=>299 | 13=>300 | 14=>301 | 15=>302 | 16=>303 | 17=>304 | 18=>305 | 30=>329 | 31=>330 | 32=>331 | 33=>332 | 34=>333 | 35=>334 | 40=>347 | n=>n,fun | 23=>22 | 25=>3 | 3=>3 | 32=>213 | 22=>22 | 0=>0 | 44=>212 | 46=>110 | 4=>4 | 36=>388 | 35=>387 | 41=>333 | 5=>5 | 9=>9 | 53=>412 | 57=>416 | 63=>425 | 64=>246 | n=>n,fun | n=>n⟩
theorem Tryz.sort219:Go.Proofs.SlLaysM.n5 Tryz.prog Tryz.sort219_ren:={
  mixed:=by kernel_rfl
  f5:=⟨Tryz.f219.name,by decide,Tryz.func219.trans (congrArg some (by kernel_rfl))⟩
  f7:=⟨Tryz.f263.name,by decide,Tryz.func263.trans (congrArg some (by kernel_rfl))⟩
  f8:=Tryz.func264.trans (congrArg some (by kernel_rfl))
  f10:=⟨Tryz.f297.name,by decide,Tryz.func297.trans (congrArg some (by kernel_rfl))⟩
  f11:=⟨Tryz.f298.name,by decide,Tryz.func298.trans (congrArg some (by kernel_rfl))⟩
  f12:=⟨Tryz.f299.name,by decide,Tryz.func299.trans (congrArg some (by kernel_rfl))⟩
  f13:=⟨Tryz.f300.name,by decide,Tryz.func300.trans (congrArg some (by kernel_rfl))⟩
  f14:=⟨Tryz.f301.name,by decide,Tryz.func301.trans (congrArg some (by kernel_rfl))⟩
  f15:=⟨Tryz.f302.name,by decide,Tryz.func302.trans (congrArg some (by kernel_rfl))⟩
  f16:=⟨Tryz.f303.name,by decide,Tryz.func303.trans (congrArg some (by kernel_rfl))⟩
  f17:=⟨Tryz.f304.name,by decide,Tryz.func304.trans (congrArg some (by kernel_rfl))⟩
  f18:=⟨Tryz.f305.name,by decide,Tryz.func305.trans (congrArg some (by kernel_rfl))⟩
  f19:=Tryz.func306.trans (congrArg some (by kernel_rfl))
  f20:=Tryz.func307.trans (congrArg some (by kernel_rfl))
  f30:=⟨Tryz.f329.name,by decide,Tryz.func329.trans (congrArg some (by kernel_rfl))⟩
  f31:=Tryz.func330.trans (congrArg some (by kernel_rfl))
  f32:=Tryz.func331.trans (congrArg some (by kernel_rfl))
  f33:=⟨Tryz.f332.name,by decide,Tryz.func332.trans (congrArg some (by kernel_rfl))⟩
  f34:=⟨Tryz.f333.name,by decide,Tryz.func333.trans (congrArg some (by kernel_rfl))⟩
  f35:=⟨Tryz.f334.name,by decide,Tryz.func334.trans (congrArg some (by kernel_rfl))⟩
  f40:=⟨Tryz.f347.name,by decide,Tryz.func347.trans (congrArg some (by kernel_rfl))⟩
  t0:=Tryz.underlying0
  a0:=Tryz.isAgg0
  z0:=Tryz.sizeOf0
  v0:=Tryz.zeroValue0
  t3:=Tryz.underlying3
  a3:=Tryz.isAgg3
  z3:=Tryz.sizeOf3
  v3:=Tryz.zeroValue3
  t4:=Tryz.underlying4
  a4:=Tryz.isAgg4
  z4:=Tryz.sizeOf4
  v4:=Tryz.zeroValue4
  t5:=Tryz.underlying5
  a5:=Tryz.isAgg5
  z5:=Tryz.sizeOf5
  v5:=Tryz.zeroValue5
  t9:=Tryz.underlying9
  a9:=Tryz.isAgg9
  z9:=Tryz.sizeOf9
  v9:=Tryz.zeroValue9
  t22:=Tryz.underlying22
  a22:=Tryz.isAgg22
  z22:=Tryz.sizeOf22
  v22:=Tryz.zeroValue22
  t23:=Tryz.underlying22
  a23:=Tryz.isAgg22
  z23:=Tryz.sizeOf22
  v23:=Tryz.zeroValue22
  t25:=Tryz.underlying3
  a25:=Tryz.isAgg3
  z25:=Tryz.sizeOf3
  v25:=Tryz.zeroValue3
  t32:=Tryz.underlying213
  a32:=Tryz.isAgg213
  z32:=Tryz.sizeOf213
  v32:=Tryz.zeroValue213
  t35:=Tryz.underlying387
  a35:=Tryz.isAgg387
  z35:=Tryz.sizeOf387
  v35:=Tryz.zeroValue387
  t36:=Tryz.underlying388
  a36:=Tryz.isAgg388
  z36:=Tryz.sizeOf388
  v36:=Tryz.zeroValue388
  t41:=Tryz.underlying333
  a41:=Tryz.isAgg333
  z41:=Tryz.sizeOf333
  v41:=Tryz.zeroValue333
  t44:=Tryz.underlying212
  a44:=Tryz.isAgg212
  z44:=Tryz.sizeOf212
  v44:=Tryz.zeroValue212
  t46:=Tryz.underlying110
  a46:=Tryz.isAgg110
  z46:=Tryz.sizeOf110
  v46:=Tryz.zeroValue110
  t53:=Tryz.underlying412
  a53:=Tryz.isAgg412
  z53:=Tryz.sizeOf412
  v53:=Tryz.zeroValue412
  t57:=Tryz.underlying416
  a57:=Tryz.isAgg416
  z57:=Tryz.sizeOf416
  v57:=Tryz.zeroValue416
  t63:=Tryz.underlying425
  a63:=Tryz.isAgg425
  z63:=Tryz.sizeOf425
  v63:=Tryz.zeroValue425
  t64:=Tryz.underlying246
  a64:=Tryz.isAgg246
  z64:=Tryz.sizeOf246
  v64:=Tryz.zeroValue246 }
end Go.Proofs
namespace Go.Proofs.YtdbkocfbhpgpkaaGreat
open Go Go.RowKit Go.Shelf
set_option maxRecDepth 100000
set_option maxHeartbeats 1600000
theorem mfind_mdel:∀ (m:List (Int×Value)) (k:Int) (i j:Nat) (u:Value),mfind m k i=some (j,u)→i≤j∧j-i<m.length∧mdel m k=m.eraseIdx (j-i)
  | [],_,_,_,_,h=>by simp[mfind] at h
  | p :: m, k, i, j, u, h => by
    unfold mfind at h
    unfold mdel
    split at h
    · rename_i hp
      injection h with h
      injection h with h1 h2
      subst h1
      rw[if_pos hp]
      simp
    · rename_i hp
      obtain⟨a,b,c⟩:=mfind_mdel m k (i+1) j u h
      have e:j-i=j-(i+1)+1:=by omega
      refine⟨by omega,by simp;omega,?_⟩
      rw[if_neg hp,c,e]
      rfl
theorem mdel_none:∀ (m:List (Int×Value)) (k:Int) (i:Nat),mfind m k i=none→mdel m k=m
  | [],_,_,_=>rfl
  | p :: m, k, i, h => by
    unfold mfind at h
    unfold mdel
    split at h
    · cases h
    · rename_i hp
      rw[if_neg hp,mdel_none m k (i+1) h]
section
variable {P:Program}{t kt et:TypeId}(ht:P.underlying t=some (.map kt et))(hk:P.underlying kt=some (.int .i64))
include ht hk
theorem run_delete_int{w:World}{b:Nat}{m:List (Int×Value)}(h:MapI w b m)(k:Int)(ty:TypeId) :
    ∃ w',(Builtin.delete_ #[t,kt] ty #[.map (some b),.int .i64 k]).run P w=.ok (.tuple #[]) w'∧MapI w' b (mdel m k)∧(∀ j,j≠b→w'.heap[j]? = w.heap[j]?)∧w'.heap.size=w.heap.size∧w'.os=w.os∧w'.tape=w.tape∧w'.output=w.output:=by
  obtain⟨E,c,h1,h2,hst⟩:=h
  have hlt:b<w.heap.size:=(Array.getElem?_eq_some_iff.1 h1).1
  have hf:=findNow_int k E.toList m 0 h2
  have hset:∀ o:Obj,({ w with heap:=w.heap.setIfInBounds b o }:World).heap[b]? = some o:=fun o=>by simp[hlt]
  have hoth:∀ (o:Obj) (j:Nat),j≠b→({ w with heap:=w.heap.setIfInBounds b o }:World).heap[j]? = w.heap[j]?:=fun o j hj=>by
    show(w.heap.setIfInBounds b o)[j]? = _
    rw[Array.getElem?_setIfInBounds_ne (Ne.symm hj)]
  have hsz:∀ o:Obj,({ w with heap:=w.heap.setIfInBounds b o }:World).heap.size=w.heap.size:=fun o=>by simp
  have hlen:E.size=m.length:=by
    have:=congrArg List.length h2
    simpa using this
  cases hm:mfind m k 0 with
  | none =>
    rw[hm] at hf
    refine⟨{ w with heap:=w.heap.setIfInBounds b (.map E c) },?_,⟨_,_,hset _,?_,hst⟩,fun j hj=>hoth _ j hj,hsz _,rfl,rfl,rfl⟩
    · unfold Builtin.delete_
      simp only[List.getElem?_toArray,List.getElem?_cons_zero,List.getElem?_cons_succ,Sem.run_bind,run_underlying ht,Result.andThen_ok,getM h1,Go.Ev.run_checkKey_int hk,Go.Ev.run_findKey_int hk hf,setM h1,Sem.run_pure]
    · rw[mdel_none m k 0 hm];exact h2
  | some r =>
    obtain⟨j,u⟩:=r
    rw[hm] at hf
    obtain⟨-,hj,hd⟩:=mfind_mdel m k 0 j u hm
    rw[Nat.sub_zero] at hj hd
    have hE:(E.eraseIdxIfInBounds j).toList=E.toList.eraseIdx j:=by
      simp[Array.eraseIdxIfInBounds,show j<E.size by omega,Array.toList_eraseIdx]
    refine⟨{ w with heap:=w.heap.setIfInBounds b (.map (E.eraseIdxIfInBounds j) c) },?_,⟨_,_,hset _,?_,MapKept.stamped_erase hst j⟩,fun j hj=>hoth _ j hj,hsz _,rfl,rfl,rfl⟩
    · unfold Builtin.delete_
      simp only[List.getElem?_toArray,List.getElem?_cons_zero,List.getElem?_cons_succ,Sem.run_bind,run_underlying ht,Result.andThen_ok,getM h1,Go.Ev.run_checkKey_int hk,Go.Ev.run_findKey_int hk hf,setM h1,Sem.run_pure]
    · have e1:∀ {α β:Type} (f:α→β) (l:List α) (n:Nat),(l.eraseIdx n).map f=(l.map f).eraseIdx n:=by
        intro α β f l
        induction l with
        | nil=>intro n;rfl
        | cons x l ih => intro n; cases n with
          | zero=>rfl
          | succ n=>simp[ih]
      rw[hE,hd,e1,e1,h2]
end
section
variable {P:Program}{t kt et:TypeId}(ht:P.underlying t=some (.map kt et))
include ht
theorem run_clear_int{w:World}{b:Nat}{m:List (Int×Value)}(h:MapI w b m)(ty:TypeId) :
    ∃ w',(Builtin.clear_ #[t] ty #[.map (some b)]).run P w=.ok (.tuple #[]) w'∧MapI w' b []∧(∀ j,j≠b→w'.heap[j]? = w.heap[j]?)∧w'.heap.size=w.heap.size∧w'.os=w.os∧w'.tape=w.tape∧w'.output=w.output:=by
  obtain⟨E,c,h1,h2,hst⟩:=h
  have hlt:b<w.heap.size:=(Array.getElem?_eq_some_iff.1 h1).1
  refine⟨{ w with heap:=w.heap.setIfInBounds b (.map #[] c) },?_,⟨#[],c,by simp[hlt],rfl,MapKept.stamped_empty c⟩,fun j hj=>?_,by simp,rfl,rfl,rfl⟩
  · unfold Builtin.clear_
    simp only[List.getElem?_toArray,List.getElem?_cons_zero,Sem.run_bind,run_underlying ht,Result.andThen_ok,getM h1,setM h1,Sem.run_pure]
  · show(w.heap.setIfInBounds b _)[j]? = _
    rw[Array.getElem?_setIfInBounds_ne (Ne.symm hj)]
theorem run_len_int{w:World}{b:Nat}{m:List (Int×Value)}(h:MapI w b m)(ty:TypeId):(Builtin.len_ #[t] ty #[.map (some b)]).run P w=.ok (.int .i64 (m.length:Int)) w:=by
  obtain⟨E,c,h1,h2,hst⟩:=h
  have hlen:E.size=m.length:=by
    have:=congrArg List.length h2
    simpa using this
  unfold Builtin.len_
  simp only[List.getElem?_toArray,List.getElem?_cons_zero,Sem.run_bind,run_underlying ht,Result.andThen_ok,getM h1,Sem.run_pure,hlen]
  rfl
end
end Go.Proofs.YtdbkocfbhpgpkaaGreat




namespace Go.Ev
open Go
noncomputable section
def enters(P:Program)(f:Nat):Bool:=
 match P.funcs[f]? with
 | some fn=>fn.body.isSome && !(fn.name == "runtime.NumGoroutine")
 | none=>false
end
end Go.Ev







namespace Go.Ev
open Go Go.RowKit
noncomputable section
structure KeysAt(P:Program)(fK fS g kt mt:Nat):Prop where
  key:P.underlying kt=some (.int .i64)
  enterK:enters P fK=true
  enterS:enters P fS=true
  keys:∀ (mb:Option Nat) (W:World),Calls P fK #[.map mb] W fun e w'=>e=.returned (.func (.func g) #[] #[.pointer (some ⟨W.heap.size,0,none⟩)])∧w'=W.alloc (.cells #[.map mb] mt)
  sorted:∀ (b nn:Nat) (D0:DataW Unit) (R:Value→Option (DataW Unit×List MemPlace)) (w:World) (Bm:Nat),Bm<w.heap.size→w.cell? ⟨Bm,0,none⟩=some (.map (some b))→w.ownsMap P kt R b nn D0 →
    Maps.size D0≤maxLen→Maps.size D0 * 8≤140737488355328→Calls P fS #[.func (.func g) #[] #[.pointer (some ⟨Bm,0,none⟩)]] w fun e w'=>∃ (v:Value) (ss:List Int),e=.returned v∧ss.Perm (intKeys D0) ∧
      w'.ownsRow w.heap.size kt 1 v ss.length ((ss.mergeSort (fun x y=>decide (x≤y))).map encZ)∧(v=.slice none 0 0↔ss=[])∧Below w.heap.size w w'
  sorted0:∀ (w:World) (Bm:Nat),Bm<w.heap.size→w.cell? ⟨Bm,0,none⟩=some (.map none)→Calls P fS #[.func (.func g) #[] #[.pointer (some ⟨Bm,0,none⟩)]] w fun e w'=>e=.returned (.slice none 0 0)∧Below w.heap.size w w'
theorem map_inj_of{α β:Type}{f:α→β}(hf:∀ {a b},f a=f b→a=b):∀ {l m:List α},l.map f=m.map f→l=m
  | [],[],_=>rfl
  | [],_::_,h=>by simp at h
  | _::_,[],h=>by simp at h
  | a :: l, b :: m, h => by
    simp only[List.map_cons,List.cons.injEq] at h
    rw[hf h.1,map_inj_of hf h.2]
end
end Go.Ev
namespace Go.Proofs
open Go Go.RowKit Go.Maps Go.Sort Go.Shelf
theorem Tryz.sorts(m:Nat):AnyZI.SortsIn Tryz.prog Tryz.sorted133_ren Fence.wide m:=
  ⟨fun blk off cap ss W hH hblk hsz=>callsIn_wide.2 (AnyM.slices_Sort_int Tryz.sort219 blk off cap ss W hH hblk hsz),
   fun p cap W=>callsIn_wide.2 (AnyM.slices_Sort_int_none Tryz.sort219 p cap W)⟩
theorem Tryz.keysAt1:Ev.KeysAt Tryz.prog 134 133 220 3 (Tryz.keys134_ren.t 23) where
  key:=by kernel_rfl
  enterK:=by kernel_rfl
  enterS:=by kernel_rfl
  keys mb W:=callsIn_wide.1 (AnyZI.keys_in Tryz.keys134 Fence.wide 5 trivial rfl mb W)
  sorted b nn D0 R w Bm hBm hm hown hmax hbytes:=
    callsIn_wide.1 (AnyZI.sorted_in Tryz.sorted133 Fence.wide 5 trivial trivial trivial trivial rfl (by omega) (Tryz.sorts _) (enters_of Tryz.func219 (by kernel_rfl) rfl) 220 #[.pointer (some ⟨Bm,0,none⟩)] trivial (enters_of Tryz.func220 (by kernel_rfl) rfl) _ _ hmax hbytes w
      (AnyZI.keys_gives (ρ:=Tryz.keys134_ren) { Tryz.keys134 with } Fence.wide _ trivial rfl (by omega) Bm b nn D0 w hBm hm hown))
  sorted0 w Bm hBm hm:=by
    refine(callsIn_wide.1 (AnyZI.sorted_in Tryz.sorted133 Fence.wide 5 trivial trivial trivial trivial rfl (by omega) (Tryz.sorts _) (enters_of Tryz.func219 (by kernel_rfl) rfl) 220 #[.pointer (some ⟨Bm,0,none⟩)] trivial (enters_of Tryz.func220 (by kernel_rfl) rfl) (fun ss:List Int=>ss=[]) 0 (Nat.zero_le _) (by omega) w
      (AnyZI.keys_gives_nil (ρ:=Tryz.keys134_ren) { Tryz.keys134 with } Fence.wide _ trivial rfl Bm w hBm hm))).mono ?_
    rintro e w' ⟨v,ss,rfl,rfl,_,hnil,hb⟩
    exact⟨by rw[hnil.2 rfl],hb⟩
theorem Tryz.keysAt2:Ev.KeysAt Tryz.prog 309 133 336 3 (Tryz.keys309_ren.t 23) where
  key:=by kernel_rfl
  enterK:=by kernel_rfl
  enterS:=by kernel_rfl
  keys mb W:=callsIn_wide.1 (AnyZI.keys_in Tryz.keys309 Fence.wide 5 trivial rfl mb W)
  sorted b nn D0 R w Bm hBm hm hown hmax hbytes:=
    callsIn_wide.1 (AnyZI.sorted_in Tryz.sorted133 Fence.wide 5 trivial trivial trivial trivial rfl (by omega) (Tryz.sorts _) (enters_of Tryz.func219 (by kernel_rfl) rfl) 336 #[.pointer (some ⟨Bm,0,none⟩)] trivial (enters_of Tryz.func336 (by kernel_rfl) rfl) _ _ hmax hbytes w
      (AnyZI.keys_gives (ρ:=Tryz.keys309_ren) { Tryz.keys309 with } Fence.wide _ trivial rfl (by omega) Bm b nn D0 w hBm hm hown))
  sorted0 w Bm hBm hm:=by
    refine(callsIn_wide.1 (AnyZI.sorted_in Tryz.sorted133 Fence.wide 5 trivial trivial trivial trivial rfl (by omega) (Tryz.sorts _) (enters_of Tryz.func219 (by kernel_rfl) rfl) 336 #[.pointer (some ⟨Bm,0,none⟩)] trivial (enters_of Tryz.func336 (by kernel_rfl) rfl) (fun ss:List Int=>ss=[]) 0 (Nat.zero_le _) (by omega) w
      (AnyZI.keys_gives_nil (ρ:=Tryz.keys309_ren) { Tryz.keys309 with } Fence.wide _ trivial rfl Bm w hBm hm))).mono ?_
    rintro e w' ⟨v,ss,rfl,rfl,_,hnil,hb⟩
    exact⟨by rw[hnil.2 rfl],hb⟩
end Go.Proofs
namespace Go.Proofs.YtdbkocfbhpgpkaaGreat
open Go Go.RowKit Go.Shelf
open Go.Ev (KeysAt)
set_option maxRecDepth 100000
set_option maxHeartbeats 1600000
theorem keys_sorted{fK fS g mt:Nat}(K:KeysAt Tryz.prog fK fS g 3 mt){w:World}{b Bm:Nat}{m:List (Int×Value)}(h:MapI w b m)(hB:Bm<w.heap.size)(hc:w.cell? ⟨Bm,0,none⟩=some (.map (some b)))(hwf:∀ p∈m,(Lit.int .i64 p.1).wf=true)(hl:m.length≤10000) :
    Calls Tryz.prog fS #[.func (.func g) #[] #[.pointer (some ⟨Bm,0,none⟩)]] w fun e w'=>∃ (v:Value) (ss:List Int),e=.returned v∧ss.Perm (m.map (·.1)) ∧
      w'.ownsRow w.heap.size 3 1 v ss.length ((ss.mergeSort (fun x y=>decide (x≤y))).map encZ)∧(v=.slice none 0 0↔ss=[])∧Below w.heap.size w w':=by
  obtain⟨E,c,hob,h2,hst⟩:=h
  have hkeys:E.toList.map (·.key)=(m.map (·.1)).map encZ:=by
    have:=congrArg (List.map Prod.fst) h2
    simpa only[List.map_map,Function.comp_def] using this
  have hEl:E.size=m.length:=by
    have:=congrArg List.length h2
    simpa using this
  let R:Value→Option (DataW Unit×List MemPlace):=fun _=>some (.lit (.bool true),[])
  have hread:∀ x∈E.toList,∃ n,x.key=encZ n∧n∈m.map (·.1)∧WideElems.rd Tryz.prog 3 R x=some (.int .i64 n,.lit (.bool true)):=by
    intro x hx
    have:x.key∈(m.map (·.1)).map encZ:=by rw[← hkeys];exact List.mem_map_of_mem hx
    obtain⟨n,hn,he⟩:=List.mem_map.1 this
    refine⟨n,he.symm,hn,?_⟩
    have hw:(Lit.int .i64 n).wf=true:=by
      obtain⟨p,hp,rfl⟩:=List.mem_map.1 hn
      exact hwf p hp
    have hkl:keyOf Tryz.prog 3 x.key=some (.int .i64 n):=by
      rw[← he]
      simp[keyOf,K.key,mapKey,hw]
    simp[WideElems.rd,hkl,R]
  have hml:(10000:Nat)≤maxLen:=by decide
  have hown:w.ownsMap Tryz.prog 3 R b E.size (.map ((E.toList.map (WideElems.rg Tryz.prog 3 R)).foldr DataW.insert [])):=
    ⟨E,c,hob,⟨by omega,hst,fun x hx=>by obtain⟨n,_,_,hr⟩:=hread x hx;exact⟨_,hr⟩⟩,Nat.le_refl _,rfl⟩
  have hperm:(intKeys (.map ((E.toList.map (WideElems.rg Tryz.prog 3 R)).foldr DataW.insert []):DataW Unit)).Perm (m.map (·.1)):=by
    have h1:((E.toList.map (WideElems.rg Tryz.prog 3 R)).foldr DataW.insert []).Perm (E.toList.map (WideElems.rg Tryz.prog 3 R)):=WideShapes.sorted_perm _
    have h2:=h1.map (fun p:Lit×DataW Unit=>Go.intOf p.1)
    have h3:(E.toList.map (WideElems.rg Tryz.prog 3 R)).map (fun p:Lit×DataW Unit=>Go.intOf p.1)=m.map (·.1):=by
      have hinj:(E.toList.map fun x=>encZ (Go.intOf (WideElems.rg Tryz.prog 3 R x).1))=(m.map (·.1)).map encZ:=by
        rw[← hkeys]
        apply List.map_congr_left
        intro x hx
        obtain⟨n,he,_,hr⟩:=hread x hx
        rw[WideElems.rg_of hr,he];rfl
      have:((E.toList.map (WideElems.rg Tryz.prog 3 R)).map (fun p:Lit×DataW Unit=>Go.intOf p.1)).map encZ=(m.map (·.1)).map encZ:=by
        rw[← hinj];simp[List.map_map,Function.comp_def]
      exact Go.Ev.map_inj_of encZ_inj this
    rw[h3] at h2
    exact h2
  have hsz:Maps.size (.map ((E.toList.map (WideElems.rg Tryz.prog 3 R)).foldr DataW.insert []):DataW Unit)=m.length:=by
    rw[Maps.size_eq,length_sorted,List.length_map,Array.length_toList,hEl]
  refine(K.sorted b E.size _ R w Bm hB hc hown (by rw[hsz];omega) (by rw[hsz];omega)).mono ?_
  rintro e w' ⟨v,ss,rfl,hp,hrest⟩
  exact⟨v,ss,rfl,hp.trans hperm,hrest⟩
theorem keys_one{fK fS g mt:Nat}(K:KeysAt Tryz.prog fK fS g 3 mt){w:World}{b Bm:Nat}{u:Value}(h:MapI w b [(1,u)])(hB:Bm<w.heap.size)(hc:w.cell? ⟨Bm,0,none⟩=some (.map (some b))) :
    Calls Tryz.prog fS #[.func (.func g) #[] #[.pointer (some ⟨Bm,0,none⟩)]] w fun e w'=>(∃ q c,e=.returned (.slice (some ⟨q,0,none⟩) 1 c)∧w.heap.size≤q∧1≤c∧∃ cur,w'.heap[q]? = some (.cells cur 3 (0,0))∧cur[0]? = some (.int .i64 1))∧Below w.heap.size w w':=by
  refine(keys_sorted K h hB hc (fun p hp=>by simp at hp;rw[hp];show(Lit.int .i64 1).wf=true;decide) (by simp)).mono ?_
  rintro e w' ⟨v,ss,rfl,hp,⟨-,⟨rfl,h0⟩|⟨q,c,cur,rfl,h1,h2,h3,h4,h5,h6⟩⟩,-,hb⟩
  · have:=hp.length_eq
    rw[h0] at this;cases this
  · have hs:ss=[1]:=List.perm_singleton.1 hp
    subst hs
    refine⟨⟨q,c,rfl,h1,h3,cur,h2,?_⟩,hb⟩
    have:=congrArg (fun l=>l[0]?) h6
    simpa[List.getElem?_take,encZ] using this
theorem keys_none{fK fS g mt:Nat}(K:KeysAt Tryz.prog fK fS g 3 mt){w:World}{b Bm:Nat}(h:MapI w b [])(hB:Bm<w.heap.size)(hc:w.cell? ⟨Bm,0,none⟩=some (.map (some b))) :
    Calls Tryz.prog fS #[.func (.func g) #[] #[.pointer (some ⟨Bm,0,none⟩)]] w fun e w'=>e=.returned (.slice none 0 0)∧Below w.heap.size w w':=by
  refine(keys_sorted K h hB hc (fun p hp=>by simp at hp) (by simp)).mono ?_
  rintro e w' ⟨v,ss,rfl,hp,-,hn,hb⟩
  have hs:ss=[]:=List.perm_nil.1 hp
  exact⟨by rw[hn.2 hs],hb⟩
end Go.Proofs.YtdbkocfbhpgpkaaGreat
