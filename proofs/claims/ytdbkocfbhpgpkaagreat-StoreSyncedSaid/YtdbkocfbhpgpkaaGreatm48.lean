/-
  A quicker evaluator: plain regions, compiled: one operation behind another.
-/
import Derived.Test.YtdbkocfbhpgpkaaGreatm47
set_option linter.unusedVariables false
set_option linter.unusedSimpArgs false
namespace Go.Ev
open Go
noncomputable section
structure BodyC(P:Program)(S:Sta)(ops:Array Oper)(o:Oper)(l:List Oper)(E:En) where
  run:Rn
  ok:∀ call,CallOk P S.G call→∀ f L st f' st',run call f L st=.ok f' st'→∀ ρ (a:Act) w,QF S.lim S.X ρ f a.tmps→LR S.lim ρ E L a.tmps→Rel ρ st w→Glob ρ S.G →
    ∀ (ro:Option Nat) (Q:Exit→Act→World→Prop),(∀ ρ' a' w',QF S.lim S.X ρ' f' a'.tmps→Good ρ st w ρ' st' w'→a'.defers=a.defers→Q .normal a' w')→o.wpIn (fence ro) 0 P a w (wpListIn (fence ro) 0 P ops Q l) Q
def bodyP(p:F2→LS→(AV→RR)→RR)(r:AV→Rn)(call:CallF)(f:F2)(L:LS)(st:St):RR:=p f L (fun v=>r v call f L st)
def opReadF(o:Op):Program→(Operand→AV)→St→Option AV:=
  match o with
  | .load t x => fun P v st => match v x with
    | .ptr i off => match aggN P t with
      | some (some n)=>((st.obj i).blk off n).map fun b=>.agg b.toL
      | some none=>(st.obj i).cell? off
      | none=>none
    | _=>none
  | .lookup t x k ok=>fun P v st=>lookupA P t (v x) (v k) ok st
  | o=>fun P v st=>opRead P o v st
theorem opReadF_eq(o:Op)(P:Program)(v:Operand→AV)(st:St):opReadF o P v st=opRead P o v st:=by cases o<;>rfl
def opAllocF(o:Op):Program→(Operand→AV)→Option (AO×(Nat→AV)):=
  match o with
  | .alloc t => fun P _ => match zeroL P t with
    | some l=>(mkRow (rowOf l)).map fun o=>(o,fun i=>.ptr i 0)
    | none=>none
  | .box t x => fun P v => match (v x).cellsA with
    | some l=>(mkRow (rowOf l)).map fun o=>(o,fun i=>.ptr i 0)
    | none=>none
  | .buildSlice t len parts => fun P v => match P.underlying t with
    | some (.slice e) => match zeroL P e with
      | some zl=>bif Nat.ble (len * zl.length) 16777216 then
          match fillA (fun i=>some (i * zl.length,zl.length)) (zerosA zl len) (parts.toList.map fun x=>(x.1,v x.2)) with
          | some l=>(mkRow (rowOf l)).map fun o=>(o,fun i=>.slice i 0 len len 0)
          | none=>none
        else none
      | none=>none
    | _=>none
  | .makeSlice t l c => fun P v => match P.underlying t, v l, v c with
    | some (.slice e), .int _ (.ofNat l), .int _ (.ofNat c) => match zeroL P e, P.info? e with
      | some zl,some i=>bif Nat.ble l c && Nat.ble (i.bytes * c) 281474976710656 && Nat.ble c 9223372036854775807 then
          (mkRow (zeroRow zl c)).map fun o=>(o,fun i=>.slice i 0 l c 0)
        else none
      | _,_=>none
    | _,_,_=>none
  | o=>fun P v=>opAlloc P o v
theorem opAllocF_eq(o:Op)(P:Program)(v:Operand→AV):opAllocF o P v=opAlloc P o v:=by cases o<;>rfl
def opHeavyF(o:Op):Program→CallF→(Operand→AV)→St→Option (AV×St):=
  match o with
  | .store t a x=>fun P _ v st=>(storeA P t (v a) (v x) st).map fun st'=>(undefA,st')
  | .mapUpdate t m k x=>fun P _ v st=>(mapUpdateA P t (v m) (v k) (v x) st).map fun st'=>(.tup [],st')
  | .insert t m k x=>fun P _ v st=>(mapUpdateA P t (v m) (v k) (v x) st).map fun st'=>(.tup [],st')
  | o=>fun P call v st=>opHeavy P call o v st
theorem opHeavyF_eq(o:Op)(P:Program)(call:CallF)(v:Operand→AV)(st:St):opHeavyF o P call v st=opHeavy P call o v st:=by cases o<;>rfl
def readQ(P:Program)(S:Sta)(E:En)(o:Op)(r:AV→Rn)(call:CallF)(f:F2)(L:LS)(st:St):RR:=someR (opReadF o P (valQ S E f L) st) (fun v=>r v call f L st)
def pairR{α β:Type}(r:Option (α×β))(k:α→β→RR):RR:=Option.rec (motive:=fun _=>RR) .no (fun p=>Prod.rec (motive:=fun _=>RR) k p) r
theorem pairR_ok{α β:Type}{r:Option (α×β)}{k:α→β→RR}(h:(pairR r k).isOk):∃ x y,r=some (x,y)∧pairR r k=k x y:=by
  cases r with
  | none=>exact h.elim
  | some p=>obtain⟨x,y⟩:=p;exact⟨x,y,rfl,rfl⟩
def allocQ(P:Program)(S:Sta)(E:En)(o:Op)(r:AV→Rn)(call:CallF)(f:F2)(L:LS)(st:St):RR:=
  pairR (opAllocF o P (valQ S E f L)) (fun ao g=>Bool.rec (motive:=fun _=>RR) .no (r (g st.top) call f L (st.alloc ao)) st.room)
def softK(st:St)(v:AV)(k:RR):RR:=match v with
  | .slice i _ _ _ _=>Bool.rec (motive:=fun _=>RR) .no k (st.obj i).brow
  | _=>.no
def softQ(P:Program)(S:Sta)(E:En)(o:Op)(r:AV→Rn)(call:CallF)(f:F2)(L:LS)(st:St):RR:=
  someR (softA P o (valQ S E f L)) (fun v=>softK st v (r v call f L st))
def heavyQ(P:Program)(S:Sta)(E:En)(o:Op)(r:AV→Rn)(call:CallF)(f:F2)(L:LS)(st:St):RR:=
  pairR (opHeavyF o P call (valQ S E f L) st) (fun v st'=>r v call f L st')
theorem isOk_of{r:RR}{f:F2}{st:St}(h:r=.ok f st):r.isOk:=by rw[h];trivial
section
variable {P:Program}{S:Sta}{ops:Array Oper}{o:Oper}{l:List Oper}{E:En}
theorem nd_of(h:clsOf P o.op≠.heavy):∀ c,o.op≠.defer c:=fun c hc=>h (by rw[hc];rfl)
def pureB(h:clsOf P o.op=.pure)(C:ContC P S ops l E o.dst):BodyC P S ops o l E:=
  match pureC P S E o,C with
  | ⟨p, hp⟩, ⟨r, hr⟩ => ⟨bodyP p r, fun call hc f L st f' st' hrun ρ a w hF hL hR hG ro Q hQ => by
    obtain⟨v,h1,h2⟩:=hp f L (fun v=>r v call f L st) (isOk_of hrun)
    have hrun:p f L (fun v=>r v call f L st)=.ok f' st':=hrun
    rw[h1] at hrun
    obtain⟨z,h3,h4⟩:=opPure_sound h2 (valQ_VR hF hL hG) w
    refine wpIn_of_upon (nd_of (by rw[h];simp)) ?_
    rw[h3]
    exact hr call hc v f L st f' st' hrun ρ a w z h4 hF hL hR hG ro Q hQ⟩
def readB(h:clsOf P o.op=.read)(C:ContC P S ops l E o.dst):BodyC P S ops o l E:=
  match C with
  | ⟨r, hr⟩ => ⟨readQ P S E o.op r, fun call hc f L st f' st' hrun ρ a w hF hL hR hG ro Q hQ => by
    obtain⟨v,h2,h1⟩:=someR_ok (isOk_of hrun)
    have hrun:someR (opReadF o.op P (valQ S E f L) st) (fun v=>r v call f L st)=.ok f' st':=hrun
    rw[h1] at hrun
    rw[opReadF_eq] at h2
    obtain⟨z,h3,h4⟩:=opRead_sound h2 (valQ_VR hF hL hG) hR
    refine wpIn_of_upon (nd_of (by rw[h];simp)) ?_
    rw[h3]
    exact hr call hc v f L st f' st' hrun ρ a w z h4 hF hL hR hG ro Q hQ⟩
def allocB(h:clsOf P o.op=.alloc)(C:ContC P S ops l E o.dst):BodyC P S ops o l E:=
  match C with
  | ⟨r, hr⟩ => ⟨allocQ P S E o.op r, fun call hc f L st f' st' hrun ρ a w hF hL hR hG ro Q hQ => by
    obtain⟨ao,g,h2,h1⟩:=pairR_ok (isOk_of hrun)
    rw[opAllocF_eq] at h2
    have hrun:pairR (opAllocF o.op P (valQ S E f L)) (fun ao g=>Bool.rec (motive:=fun _=>RR) .no (r (g st.top) call f L (st.alloc ao)) st.room)=.ok f' st':=hrun
    rw[h1] at hrun
    cases hroom:st.room with
    | false=>rw[hroom] at hrun;cases hrun
    | true =>
      rw[hroom] at hrun
      obtain⟨z,ob,sh,top,w',h3,h4,h5,h6⟩:=opAlloc_sound h2 (valQ_VR hF hL hG) w
      have hext:=Ren.ext_set (ρ:=ρ) (i:=st.next) (L:=⟨w.heap.size,sh,top⟩) (hR.fresh _ (Nat.le_refl _))
      obtain⟨h7,h8⟩:=h6 st.next (ρ.set st.next ⟨w.heap.size,sh,top⟩) hext (Ren.set_same _ _ _)
      have hg:=Good.alloc' hR hroom h4 h5 h7
      refine wpIn_of_upon (nd_of (by rw[h];simp)) ?_
      rw[h3]
      exact hr call hc (g st.top) f L (st.alloc ao) f' st' hrun _ a w' z h8 (hF.ext hext) (hL.ext hext) hg.rel (hG.ext hext) ro Q (fun ρ' a' w'' q1 q2 q3=>hQ ρ' a' w'' q1 (hg.trans q2) q3)⟩
def softB(h:clsOf P o.op=.soft)(C:ContC P S ops l E o.dst):BodyC P S ops o l E:=
  match C with
  | ⟨r, hr⟩ => ⟨softQ P S E o.op r, fun call hc f L st f' st' hrun ρ a w hF hL hR hG ro Q hQ => by
    obtain⟨v,h2,h1⟩:=someR_ok (isOk_of hrun)
    have hrun:someR (softA P o.op (valQ S E f L)) (fun v=>softK st v (r v call f L st))=.ok f' st':=hrun
    rw[h1] at hrun
    unfold softK at hrun
    split at hrun
    · rename_i i off len cap es
      cases hrow:(st.obj i).brow with
      | false=>rw[hrow] at hrun;cases hrun
      | true =>
        rw[hrow] at hrun
        obtain⟨z,i',off',len',cap',es',M,w',he,hM,h3,h4,h5,h6,h7⟩:=soft_run h2 (valQ_VR hF hL hG) w
        cases he
        obtain⟨hi,hobj⟩:=St.obj_live (AO.live_of_writable (row_writable (AO.row_of_brow hrow)))
        have hg:=soft_good (P:=P) (a:=⟨M.b,0,none⟩) hR h5 h6 h7 ⟨i,M,hi,by rw[← hobj];exact hrow,hM,rfl⟩
        refine wpIn_of_upon (nd_of (by rw[h];simp)) ?_
        rw[h3]
        exact hr call hc _ f L st f' st' hrun ρ a w' z h4 hF hL hg.rel hG ro Q (fun ρ' a' w'' q1 q2 q3=>hQ ρ' a' w'' q1 (hg.trans q2) q3)
    · cases hrun⟩
def heavyB(C:ContC P S ops l E o.dst):BodyC P S ops o l E:=
  match C with
  | ⟨r, hr⟩ => ⟨heavyQ P S E o.op r, fun call hc f L st f' st' hrun ρ a w hF hL hR hG ro Q hQ => by
    obtain⟨v,st1,h2,h1⟩:=pairR_ok (isOk_of hrun)
    rw[opHeavyF_eq] at h2
    have hrun:pairR (opHeavyF o.op P call (valQ S E f L) st) (fun v st'=>r v call f L st')=.ok f' st':=hrun
    rw[h1] at hrun
    refine opHeavy_sound hc h2 (valQ_VR hF hL hG) hR hG ?_
    intro ρ1 z w1 h3 hg
    exact hr call hc v f L st1 f' st' hrun ρ1 a w1 z h3 (hF.ext hg.ext) (hL.ext hg.ext) hg.rel (hG.ext hg.ext) ro Q (fun ρ' a' w'' q1 q2 q3=>hQ ρ' a' w'' q1 (hg.trans q2) q3)⟩
structure ArgsC(S:Sta)(E:En)(xs:List Operand) where
  run:F2→LS→List AV
  ok:∀ f L,run f L=xs.map (valQ S E f L)
def argsZ(_:F2)(_:LS):List AV:=[]
def argsS(g:F2→LS→AV)(r:F2→LS→List AV)(f:F2)(L:LS):List AV:=g f L::r f L
def argsC(S:Sta)(E:En):(xs:List Operand)→ArgsC S E xs
  | []=>⟨argsZ,fun _ _=>rfl⟩
  | x :: xs => match getC S E x, argsC S E xs with
    | ⟨g,hg⟩,⟨r,hr⟩=>⟨argsS g r,fun f L=>by unfold argsS;rw[hg,hr];rfl⟩
def callR(g:FuncId)(as:F2→LS→List AV)(r:AV→Rn)(call:CallF)(f:F2)(L:LS)(st:St):RR:=pairR (call (.func g) (as f L) st) (fun v st'=>r v call f L st')
def callB{g:FuncId}{args:Array Operand}{ts:Array TypeId}(ho:o.op=.call ⟨.value (.func g),args,ts⟩)(C:ContC P S ops l E o.dst):BodyC P S ops o l E:=
  match C,argsC S E args.toList with
  | ⟨r, hr⟩, ⟨as, has⟩ => ⟨callR g as r, fun call hc f L st f' st' hrun ρ a w hF hL hR hG ro Q hQ => by
    obtain⟨v,st1,h2,h1⟩:=pairR_ok (isOk_of hrun)
    have hrun:pairR (call (.func g) (as f L) st) (fun v st'=>r v call f L st')=.ok f' st':=hrun
    rw[h1] at hrun
    have hh:opHeavy P call o.op (valQ S E f L) st=some (v,st1):=by
      rw[ho]
      simp only[opHeavy,valQ,List.nil_append,List.append_nil]
      rw[← h2,has]
    refine opHeavy_sound hc hh (valQ_VR hF hL hG) hR hG ?_
    intro ρ1 z w1 h3 hg
    exact hr call hc v f L st1 f' st' hrun ρ1 a w1 z h3 (hF.ext hg.ext) (hL.ext hg.ext) hg.rel (hG.ext hg.ext) ro Q (fun ρ' a' w'' q1 q2 q3=>hQ ρ' a' w'' q1 (hg.trans q2) q3)⟩
def objO (st:St)(i:Nat):AO:=St.rec (motive:=fun _=>AO) (fun h _ n=>Bool.rec (motive:=fun _=>AO) .dead (h.get i) (Nat.blt i n)) st
theorem objO_eq(st:St)(i:Nat):objO st i=st.obj i:=by
  obtain⟨h,d,n⟩:=st
  show Bool.rec (motive:=fun _=>AO) .dead (h.get i) (Nat.blt i n)=(bif Nat.blt i n then h.get i else .dead)
  generalize Nat.blt i n=b
  cases b<;>rfl
def cellO(o:AO)(k:Nat)(c:AV→RR):RR:=
  AO.rec (motive:=fun _=>Nat→(AV→RR)→RR) (fun _ _=>.no) (fun _ sz _ t k c=>ifR (Nat.blt k sz) (c (t.get k))) (fun _ sz n k c=>ifR (Nat.blt k sz) (c (.int .u8 (.ofNat (Nat.mod (Nat.shiftRight n (Nat.mul 8 k)) 256)))))
    (fun _ _ _=>.no) (fun v k c=>ifR (Nat.beq k 0) (c v)) (fun _ _ _ _ _ _ _ _=>.no) o k c
theorem cellO_ok{o:AO}{k:Nat}{c:AV→RR}(h:(cellO o k c).isOk):∃ v,o.cell? k=some v∧cellO o k c=c v:=by
  cases o with
  | dead=>exact h.elim
  | map _=>exact h.elim
  | loop _ _ _ _ _ _=>exact h.elim
  | cells rw sz d t =>
    obtain⟨h1,h2⟩:=ifR_ok h
    exact⟨t.get k,by simp only[AO.cell?,h1,cond_true],h2⟩
  | bytes rw sz n =>
    obtain⟨h1,h2⟩:=ifR_ok h
    exact⟨_,by simp only[AO.cell?,h1,cond_true];rfl,h2⟩
  | box v =>
    obtain⟨h1,h2⟩:=ifR_ok h
    exact⟨v,by simp only[AO.cell?,h1,cond_true],h2⟩
def loadR(g:F2→LS→AV)(r:AV→Rn)(call:CallF)(f:F2)(L:LS)(st:St):RR:=ptrV (g f L) (fun i o=>cellO (objO st i) o (fun v=>r v call f L st))
def loadB{t:TypeId}{x:Operand}(ho:o.op=.load t x)(ht:aggN P t=some none)(C:ContC P S ops l E o.dst):BodyC P S ops o l E:=
  match C,getC S E x with
  | ⟨r, hr⟩, ⟨g, hg⟩ => ⟨loadR g r, fun call hc f L st f' st' hrun ρ a w hF hL hR hG ro Q hQ => by
    obtain⟨i,off,h1,h2⟩:=ptrV_ok (isOk_of hrun)
    have hrun:ptrV (g f L) (fun i o=>cellO (objO st i) o (fun v=>r v call f L st))=.ok f' st':=hrun
    rw[h2] at hrun
    obtain⟨v,h3,h4⟩:=cellO_ok (isOk_of hrun)
    rw[h4] at hrun
    rw[objO_eq] at h3
    have hread:opRead P o.op (valQ S E f L) st=some v:=by
      rw[ho]
      simp only[opRead]
      rw[← hg,h1]
      simp only[ht]
      exact h3
    obtain⟨z,h5,h6⟩:=opRead_sound hread (valQ_VR hF hL hG) hR
    refine wpIn_of_upon (fun c hc=>by rw[ho] at hc;cases hc) ?_
    rw[h5]
    exact hr call hc v f L st f' st' hrun ρ a w z h6 hF hL hR hG ro Q hQ⟩
def heavyK(h:CallF→F2→LS→St→Option (AV×St))(r:AV→Rn)(call:CallF)(f:F2)(L:LS)(st:St):RR:=pairR (h call f L st) (fun v st'=>r v call f L st')
def heavyE(h:CallF→F2→LS→St→Option (AV×St))(hh:∀ call f L st,h call f L st=opHeavy P call o.op (valQ S E f L) st)(C:ContC P S ops l E o.dst):BodyC P S ops o l E:=
  match C with
  | ⟨r, hr⟩ => ⟨heavyK h r, fun call hc f L st f' st' hrun ρ a w hF hL hR hG ro Q hQ => by
    obtain⟨v,st1,h2,h1⟩:=pairR_ok (isOk_of hrun)
    have hrun:pairR (h call f L st) (fun v st'=>r v call f L st')=.ok f' st':=hrun
    rw[h1] at hrun
    rw[hh] at h2
    refine opHeavy_sound hc h2 (valQ_VR hF hL hG) hR hG ?_
    intro ρ1 z w1 h3 hg
    exact hr call hc v f L st1 f' st' hrun ρ1 a w1 z h3 (hF.ext hg.ext) (hL.ext hg.ext) hg.rel (hG.ext hg.ext) ro Q (fun ρ' a' w'' q1 q2 q3=>hQ ρ' a' w'' q1 (hg.trans q2) q3)⟩
abbrev OV:=Option (AV×St)
def ptrO (v:AV)(z:OV)(f:Nat→Nat→OV):OV:=
  AV.rec (motive_1:=fun _=>OV→(Nat→Nat→OV)→OV) (motive_2:=fun _=>Unit)
    (fun z _=>z) (fun _ z _=>z) (fun _ _ z _=>z) (fun _ _ z _=>z) (fun z _=>z) (fun i o _ f=>f i o) (fun z _=>z)
    (fun _ _ _ _ _ z _=>z) (fun z _=>z) (fun _ z _=>z) (fun _ _ _ _ _ z _=>z) (fun z _=>z) (fun _ z _=>z) (fun _ _ _ z _=>z)
    (fun z _=>z) (fun _ _ z _=>z) (fun _ _ z _=>z) () (fun _ _ _ _=>()) v z f
def oneO (v:AV)(z f:OV):OV:=
  AV.rec (motive_1:=fun _=>OV→OV→OV) (motive_2:=fun _=>Unit)
    (fun z _=>z) (fun _ _ f=>f) (fun _ _ _ f=>f) (fun _ _ _ f=>f) (fun _ f=>f) (fun _ _ _ f=>f) (fun _ f=>f)
    (fun _ _ _ _ _ _ f=>f) (fun _ f=>f) (fun _ _ f=>f) (fun _ _ _ _ _ _ f=>f) (fun _ f=>f) (fun _ _ f=>f) (fun _ _ _ _ f=>f)
    (fun _ f=>f) (fun _ _ z _=>z) (fun _ _ z _=>z) () (fun _ _ _ _=>()) v z f
def cellsO(o:AO)(z:OV)(f:Bool→Nat→Nat→T AV→OV):OV:=
  AO.rec (motive:=fun _=>OV→(Bool→Nat→Nat→T AV→OV)→OV) (fun z _=>z) (fun rw sz d t _ f=>f rw sz d t) (fun _ _ _ z _=>z) (fun _ z _=>z) (fun _ z _=>z) (fun _ _ _ _ _ _ z _=>z) o z f
def stPut(st:St)(i:Nat)(o:AO):St:=St.rec (motive:=fun _=>St) (fun h d n=>⟨h.set i o,d,n⟩) st
def store1(P:Program)(t:TypeId)(a x:AV)(st:St):OV:=
  ptrO a ((storeA P t a x st).map fun st'=>(undefA,st')) (fun i off=>oneO x ((storeA P t a x st).map fun st'=>(undefA,st'))
    (cellsO (objO st i) ((storeA P t a x st).map fun st'=>(undefA,st')) (fun rw sz d c=>Bool.rec (motive:=fun _=>OV) none (Bool.rec (motive:=fun _=>OV) none (some (undefA,stPut st i (.cells true sz d (c.set off x)))) (Nat.ble (Nat.succ off) sz)) rw)))
theorem store1_eq{P:Program}{t:TypeId}(ht:szOf P t=some 1)(a x:AV)(st:St):store1 P t a x st=(storeA P t a x st).map fun st'=>(undefA,st'):=by
  cases a<;>first | rfl | skip
  rename_i i off
  have hone:∀ (h1:x.cellsA=some [x]) (h2:x.one=true),(cellsO (objO st i) ((storeA P t (.ptr i off) x st).map fun st'=>(undefA,st')) (fun rw sz d c=>Bool.rec (motive:=fun _=>OV) none (Bool.rec (motive:=fun _=>OV) none (some (undefA,stPut st i (.cells true sz d (c.set off x)))) (Nat.ble (Nat.succ off) sz)) rw))
      = (storeA P t (.ptr i off) x st).map fun st'=>(undefA,st'):=by
    intro h1 h2
    rw[objO_eq]
    cases ho:st.obj i with
    | cells rw sz d c =>
      have hs:storeA P t (.ptr i off) x st=match AO.store (.cells rw sz d c) off (.l [x]) with
          | some o=>some (st.put i o)
          | none=>none:=by
        simp only[storeA,h1,ht,ho]
        have:Nat.beq [x].length 1=true:=rfl
        rw[this,cond_true]
        cases AO.store (.cells rw sz d c) off (.l [x])<;>rfl
      rw[hs]
      cases rw with
      | false=>rfl
      | true =>
        have hl:(Blk.l [x]).len=1:=rfl
        have hall:(Blk.l [x]).toL.all AV.one=true:=by simp[Blk.toL,h2]
        simp only[AO.store,hl,hall,Bool.and_true]
        show Bool.rec (motive:=fun _=>OV) none (some (undefA,stPut st i (.cells true sz d (c.set off x)))) (Nat.ble (off+1) sz)=_
        cases Nat.ble (off+1) sz<;>rfl
    | dead=>rfl
    | bytes=>rfl
    | map=>rfl
    | box=>rfl
    | loop=>rfl
  cases x<;>first | rfl | exact hone rfl rfl
def storeH(P:Program)(t:TypeId)(ga gx:F2→LS→AV)(_:CallF)(f:F2)(L:LS)(st:St):OV:=store1 P t (ga f L) (gx f L) st
def appH (P:Program)(ts:Array TypeId)(gs gx:F2→LS→AV)(_:CallF)(f:F2)(L:LS)(st:St):OV:=appendOpA P ts (gs f L) (gx f L) st
def copyH(P:Program)(ts:Array TypeId)(gs gx:F2→LS→AV)(_:CallF)(f:F2)(L:LS)(st:St):OV:=copyA P ts (gs f L) (gx f L) st
def sliceO(v:AV)(z:OV)(f:Nat→Nat→Nat→Nat→Nat→OV):OV:=
  AV.rec (motive_1:=fun _=>OV→(Nat→Nat→Nat→Nat→Nat→OV)→OV) (motive_2:=fun _=>Unit)
    (fun z _=>z) (fun _ z _=>z) (fun _ _ z _=>z) (fun _ _ z _=>z) (fun z _=>z) (fun _ _ z _=>z) (fun z _=>z)
    (fun i o n c e _ f=>f i o n c e) (fun z _=>z) (fun _ z _=>z) (fun _ _ _ _ _ z _=>z) (fun z _=>z) (fun _ z _=>z) (fun _ _ _ z _=>z)
    (fun z _=>z) (fun _ _ z _=>z) (fun _ _ z _=>z) () (fun _ _ _ _=>()) v z f
def bytesO(o:AO)(z:OV)(f:Bool→Nat→Nat→OV):OV:=
  AO.rec (motive:=fun _=>OV→(Bool→Nat→Nat→OV)→OV) (fun z _=>z) (fun _ _ _ _ z _=>z) (fun rw sz m _ f=>f rw sz m) (fun _ z _=>z) (fun _ z _=>z) (fun _ _ _ _ _ _ z _=>z) o z f
def ifO (b:Bool)(x y:OV):OV:=Bool.rec (motive:=fun _=>OV) y x b
def stGrow(st:St)(i:Nat)(o:AO):St:=St.rec (motive:=fun _=>St) (fun h d n=>⟨(h.set i .dead).set n o,d,Nat.succ n⟩) st
def stNext(st:St):Nat:=St.rec (motive:=fun _=>Nat) (fun _ _ n=>n) st
def growOk(rw:Bool)(sz off len n offx szx bytes:Nat):Bool:=rw && (Nat.blt 0 len && (Nat.blt 0 n && (Nat.ble (off+len) sz && (Nat.ble (offx+n) szx && fitsA (len+n) bytes))))
def putOk(rw:Bool)(sz off len n offx szx:Nat):Bool:=rw && (Nat.blt 0 n && (Nat.ble (offx+n) szx && Nat.ble (off+len+n) sz))
def app1 (bytes:Nat)(z:OV)(s x:AV)(st:St):OV:=
  sliceO s z fun i off len cap o=>sliceO x z fun j offx n _ _=>bytesO (objO st i) z fun rw sz m=>bytesO (objO st j) z fun _ szx mx=>
    ifO (Nat.ble (len+n) cap)
      (ifO (Nat.ble o 1) (ifO (putOk rw sz off len n offx szx) (some (.slice i off (len+n) cap o,stPut st i (.bytes true sz (splice m (off+len) n (cutB mx offx n))))) z) z)
      (ifO (Nat.beq o 1) (ifO (growOk rw sz off len n offx szx bytes && st.room) (some (.slice (stNext st) 0 (len+n) (len+n) 1,stGrow st i (.bytes true (len+n) (strJoin len (cutB m off len) n (cutB mx offx n))))) z) z)
theorem app1_eq{P:Program}{ts:Array TypeId}{bytes:Nat}{zl:List AV}(ht:appT P ts=some (1,bytes,zl,false))(s x:AV)(st:St) :
    app1 bytes (appendOpA P ts s x st) s x st=appendOpA P ts s x st:=by
  unfold app1
  cases s<;>first | rfl | skip
  rename_i i off len cap o
  cases x<;>first | rfl | skip
  rename_i j offx n capx ox
  show bytesO (objO st i) _ _=_
  rw[objO_eq]
  cases hi:st.obj i<;>first | rfl | skip
  rename_i rw sz m
  show bytesO (objO st j) _ _=_
  rw[objO_eq]
  cases hj:st.obj j<;>first | rfl | skip
  rename_i rwx szx mx
  show ifO (Nat.ble (len+n) cap) _ _=_
  cases hc:Nat.ble (len+n) cap with
  | true =>
    show ifO (Nat.ble o 1) _ _=_
    cases ho:Nat.ble o 1 with
    | false=>rfl
    | true =>
      show ifO (putOk rw sz off len n offx szx) _ _=_
      cases hp:putOk rw sz off len n offx szx with
      | false=>rfl
      | true =>
        simp only[putOk,Bool.and_eq_true,blt_iff] at hp
        obtain⟨h1,h2,h3,h4⟩:=hp
        subst h1
        have hn:Nat.beq n 0=false:=by
          cases hb:Nat.beq n 0 with
          | false=>rfl
          | true=>have:=beq_iff.1 hb;omega
        have hnn:Nat.ble n n=true:=ble_iff.2 (Nat.le_refl _)
        have hor:(Nat.beq o 0 || Nat.beq o 1)=true:=by
          have:=ble_iff.1 ho
          rcases (show o=0∨o=1 by omega) with e|e<;>subst e<;>rfl
        have hst:(AO.bytes true sz m).store (off+len) (.b n (cutB mx offx n))=some (.bytes true sz (splice m (off+len) n (cutB mx offx n))):=by
          simp only[AO.store,Blk.pack,Blk.len,h4,cond_true]
        show some (AV.slice i off (len+n) cap o,stPut st i (.bytes true sz (splice m (off+len) n (cutB mx offx n))))=_
        simp only[appendOpA,ht,lenOfA,srcA,hn,cond_false,hnn,cond_true,Nat.mul_one,hj,AO.blk,h3,appendA,hor,hc,hi,hst]
        rfl
  | false =>
    show ifO (Nat.beq o 1) _ _=_
    cases ho:Nat.beq o 1 with
    | false=>rfl
    | true =>
      have ho:=beq_iff.1 ho
      subst ho
      show ifO (growOk rw sz off len n offx szx bytes && st.room) _ _=_
      cases hp:(growOk rw sz off len n offx szx bytes && st.room) with
      | false=>rfl
      | true =>
        simp only[growOk,Bool.and_eq_true,blt_iff] at hp
        obtain⟨⟨h1,h2,h3,h4,h5,h6⟩,h7⟩:=hp
        subst h1
        have hn:Nat.beq n 0=false:=by
          cases hb:Nat.beq n 0 with
          | false=>rfl
          | true=>have:=beq_iff.1 hb;omega
        have hlz:Nat.beq len 0=false:=by
          cases hb:Nat.beq len 0 with
          | false=>rfl
          | true=>have:=beq_iff.1 hb;omega
        have hnn:Nat.ble n n=true:=ble_iff.2 (Nat.le_refl _)
        have hll:Nat.ble len len=true:=ble_iff.2 (Nat.le_refl _)
        have hor:(Nat.beq 1 0 || Nat.beq 1 1)=true:=rfl
        have h10:Nat.beq 1 0=false:=rfl
        have hfr:(fitsA (len+n) bytes && st.room)=true:=by rw[h6,h7];rfl
        show some (AV.slice (stNext st) 0 (len+n) (len+n) 1,stGrow st i (.bytes true (len+n) (strJoin len (cutB m off len) n (cutB mx offx n))))=_
        simp only[appendOpA,ht,lenOfA,srcA,hn,cond_false,hnn,cond_true,Nat.mul_one,hj,AO.blk,h5,appendA,hor,hc,hfr,hlz,hll,hi,h4,Blk.norm,Blk.join,mkRow,h10,AO.row,Blk.one,Bool.and_self]
        rfl
def app1H(P:Program)(ts:Array TypeId)(bytes:Nat)(gs gx:F2→LS→AV)(_:CallF)(f:F2)(L:LS)(st:St):OV:=app1 bytes (appendOpA P ts (gs f L) (gx f L) st) (gs f L) (gx f L) st
def funO (v:AV)(f:Fn→List AV→List AV→OV)(g:Nat→OV):OV:=
  AV.rec (motive_1:=fun _=>(Fn→List AV→List AV→OV)→(Nat→OV)→OV) (motive_2:=fun _=>Unit)
    (fun _ _=>none) (fun _ _ _=>none) (fun _ _ _ _=>none) (fun _ _ _ _=>none) (fun _ _=>none) (fun _ _ _ _=>none) (fun _ _=>none)
    (fun _ _ _ _ _ _ _=>none) (fun _ _=>none) (fun _ _ _=>none) (fun fn a c _ _ f _=>f fn a c) (fun _ _=>none) (fun i _ g=>g i) (fun _ _ _ _ _=>none)
    (fun _ _=>none) (fun _ _ _ _=>none) (fun _ _ _ _=>none) () (fun _ _ _ _=>()) v f g
def fnO (fn:Fn)(k:FuncId→OV):OV:=match fn with
  | .func g=>k g
  | _=>none
def callH(g:F2→LS→AV)(as:F2→LS→List AV)(call:CallF)(f:F2)(L:LS)(st:St):OV:=
  funO (g f L) (fun fn a c=>fnO fn (fun q=>call (.func q) ((a++as f L)++c) st)) (fun i=>call (.yield i) (as f L) st)
def readC(h:clsOf P o.op=.read)(C:ContC P S ops l E o.dst):BodyC P S ops o l E:=
  match ho:o.op with
  | .load t x => match ht : aggN P t with
    | some none=>loadB ho ht C
    | _=>readB h C
  | _=>readB h C
def heavyC(C:ContC P S ops l E o.dst):BodyC P S ops o l E:=
  match ho:o.op with
  | .call ⟨.value (.func _),_,_⟩=>callB ho C
  | .call ⟨.value x, args, _⟩ => match getC S E x, argsC S E args.toList with
    | ⟨g, hg⟩, ⟨as, has⟩ => heavyE (callH g as) (fun call f L st => by
      rw[ho]
      simp only[opHeavy,callH]
      rw[← hg,← has]
      generalize g f L=v
      cases v<;>first | rfl | skip
      rename_i fn a c
      cases fn<;>rfl) C
  | .call ⟨.builtin .append, args, ts⟩ => match h0 : args[0]?, h1 : args[1]? with
    | some s, some x => match getC S E s, getC S E x with
      | ⟨gs, hs⟩, ⟨gx, hx⟩ => match ht : appT P ts with
        | some (1, bytes, zl, false) => heavyE (app1H P ts bytes gs gx) (fun call f L st => by
          rw[ho]
          simp only[opHeavy,h0,h1,app1H]
          rw[app1_eq ht,hs,hx]) C
        | _ => heavyE (appH P ts gs gx) (fun call f L st => by
          rw[ho]
          simp only[opHeavy,h0,h1,appH]
          rw[hs,hx]) C
    | _,_=>heavyB C
  | .call ⟨.builtin .copy, args, ts⟩ => match h0 : args[0]?, h1 : args[1]? with
    | some s, some x => match getC S E s, getC S E x with
      | ⟨gs, hs⟩, ⟨gx, hx⟩ => heavyE (copyH P ts gs gx) (fun call f L st => by
        rw[ho]
        simp only[opHeavy,h0,h1,copyH]
        rw[hs,hx]) C
    | _,_=>heavyB C
  | .store t a x => match ht : szOf P t with
    | some 1 => match getC S E a, getC S E x with
      | ⟨ga, ha⟩, ⟨gx, hx⟩ => heavyE (storeH P t ga gx) (fun call f L st => by
        rw[ho]
        simp only[opHeavy,storeH]
        rw[store1_eq ht,ha,hx]) C
    | _=>heavyB C
  | _=>heavyB C
abbrev OA:=Option (AO×(Nat→AV))
def u8A (v:AV)(z:OA)(f:Nat→OA):OA:=
  AV.rec (motive_1:=fun _=>OA→(Nat→OA)→OA) (motive_2:=fun _=>Unit)
    (fun z _=>z) (fun _ z _=>z)
    (fun k n z f=>IntKind.rec (motive:=fun _=>OA) z z z z (Int.rec (motive:=fun _=>OA) f (fun _=>z) n) z z z k)
    (fun _ _ z _=>z) (fun z _=>z) (fun _ _ z _=>z) (fun z _=>z)
    (fun _ _ _ _ _ z _=>z) (fun z _=>z) (fun _ z _=>z) (fun _ _ _ _ _ z _=>z) (fun z _=>z) (fun _ z _=>z) (fun _ _ _ z _=>z)
    (fun z _=>z) (fun _ _ z _=>z) (fun _ _ z _=>z) () (fun _ _ _ _=>()) v z f
theorem u8A_ok(v:AV)(z:OA)(f:Nat→OA):u8A v z f=z∨∃ b,v=.int .u8 (.ofNat b)∧u8A v z f=f b:=by
  cases v<;>first | exact .inl rfl | skip
  rename_i k n
  cases k<;>first | exact .inl rfl | skip
  cases n<;>first | exact .inl rfl | exact .inr ⟨_,rfl,rfl⟩
def one1 (b:Nat):AO×(Nat→AV):=(.bytes true 1 b,fun i=>.slice i 0 1 1 0)
def bs1 (z:OA)(v:AV):OA:=u8A v z (fun b=>Bool.rec (motive:=fun _=>OA) z (some (one1 b)) (Nat.blt b 256))
theorem bs1_eq{P:Program}{t e:TypeId}{parts:Array (Nat×Operand)}{z:AV}{x:Operand}{v:Operand→AV}(ht:P.underlying t=some (.slice e))(hz:zeroL P e=some [z])(hp:parts.toList=[(0,x)]) :
    bs1 (opAlloc P (.buildSlice t 1 parts) v) (v x)=opAlloc P (.buildSlice t 1 parts) v:=by
  unfold bs1
  rcases u8A_ok (v x) (opAlloc P (.buildSlice t 1 parts) v) (fun b=>Bool.rec (motive:=fun _=>OA) (opAlloc P (.buildSlice t 1 parts) v) (some (one1 b)) (Nat.blt b 256)) with h|⟨b,h1,h2⟩
  · exact h
  · rw[h2]
    cases hb:Nat.blt b 256 with
    | false=>rfl
    | true =>
      show some (one1 b)=_
      have hl:([z]:List AV).length=1:=rfl
      simp only[opAlloc,ht,hz,hp,List.map_cons,List.map_nil,h1,hl]
      have e1:Nat.ble (1 * 1) 16777216=true:=rfl
      rw[e1,cond_true]
      have e2:fillA (fun i=>some (i * 1,1)) (zerosA [z] 1) [(0,AV.int .u8 (.ofNat b))]=some [AV.int .u8 (.ofNat b)]:=rfl
      rw[e2]
      have e3:packA [AV.int .u8 (.ofNat b)]=some b:=by
        show(bif Nat.blt b 256 then(packA []).map fun m=>b ||| (m <<< 8) else none)=some b
        rw[hb]
        show some (b ||| (0 <<< 8))=some b
        simp
      simp only[rowOf,e3,mkRow,Option.map_some]
      rfl
def allocK(h:F2→LS→OA)(r:AV→Rn)(call:CallF)(f:F2)(L:LS)(st:St):RR:=
  pairR (h f L) (fun ao g=>Bool.rec (motive:=fun _=>RR) .no (r (g st.top) call f L (st.alloc ao)) st.room)
theorem allocK_ok{h:F2→LS→OA}(hcls:clsOf P o.op=.alloc)(hh:∀ f L,h f L=opAlloc P o.op (valQ S E f L))(C:ContC P S ops l E o.dst) :
    ∀ call,CallOk P S.G call→∀ f L st f' st',allocK h C.run call f L st=.ok f' st'→∀ ρ (a:Act) w,QF S.lim S.X ρ f a.tmps→LR S.lim ρ E L a.tmps→Rel ρ st w→Glob ρ S.G →
      ∀ (ro:Option Nat) (Q:Exit→Act→World→Prop),(∀ ρ' a' w',QF S.lim S.X ρ' f' a'.tmps→Good ρ st w ρ' st' w'→a'.defers=a.defers→Q .normal a' w')→o.wpIn (fence ro) 0 P a w (wpListIn (fence ro) 0 P ops Q l) Q:=by
  intro call hc f L st f' st' hrun
  have e:allocK h C.run call f L st=allocQ P S E o.op C.run call f L st:=by
    unfold allocK allocQ
    rw[hh,opAllocF_eq]
  rw[e] at hrun
  obtain⟨r,hr⟩:=C
  exact(allocB hcls ⟨r,hr⟩).ok call hc f L st f' st' hrun
def allocE(hcls:clsOf P o.op=.alloc)(h:F2→LS→OA)(hh:∀ f L,h f L=opAlloc P o.op (valQ S E f L))(C:ContC P S ops l E o.dst):BodyC P S ops o l E:=
  ⟨allocK h C.run,allocK_ok hcls hh C⟩
def bs1H (P:Program)(S:Sta)(E:En)(o:Op)(g:F2→LS→AV)(f:F2)(L:LS):OA:=bs1 (opAllocF o P (valQ S E f L)) (g f L)
def allocC(hcls:clsOf P o.op=.alloc)(C:ContC P S ops l E o.dst):BodyC P S ops o l E:=
  match ho:o.op with
  | .buildSlice t 1 parts => match ht : P.underlying t with
    | some (.slice e) => match hz : zeroL P e, hp : parts.toList with
      | some [z], [(0, x)] => match getC S E x with
        | ⟨g, hg⟩ => allocE hcls (bs1H P S E (.buildSlice t 1 parts) g) (fun f L => by
          unfold bs1H
          rw[ho,opAllocF_eq,hg]
          exact bs1_eq ht hz hp) C
      | _,_=>allocB hcls C
    | _=>allocB hcls C
  | _=>allocB hcls C
def bodyC(P:Program)(S:Sta)(ops:Array Oper)(o:Oper)(l:List Oper)(E:En)(C:ContC P S ops l E o.dst):BodyC P S ops o l E:=
  match h:clsOf P o.op with
  | .pure=>pureB h C
  | .read=>readC h C
  | .alloc=>allocC h C
  | .soft=>softB h C
  | .heavy=>heavyC C
theorem wanted_get{j:Nat}{want:Bool}{t:Tmp}{tmps:Array Value}(hg:o.guard=some (j,want))(hd:(ops[j]?).bind (·.dst)=some t)(ht:t<tmps.size) :
    Region.wanted o (yielded ops tmps)=(match tmps.getD t undef with | .bool b=>b==want | _=>false):=by
  unfold Region.wanted
  rw[hg]
  simp only[]
  unfold yielded
  rw[hd]
  simp only[Option.bind_some]
  have hget:tmps.getD t undef=tmps[t]:=by simp[Array.getD,ht]
  rw[hget,Array.getElem?_eq_getElem ht]
  generalize tmps[t]=x
  cases x<;>simp
def guardK(want:Bool)(v:AV)(body skip:RR):RR:=match v with
  | .bool b=>Bool.rec (motive:=fun _=>RR) skip body (b==want)
  | .tup _=>skip
  | _=>.no
def gV (v:AV)(x y z:RR):RR:=
  AV.rec (motive_1:=fun _=>RR→RR→RR→RR) (motive_2:=fun _=>Unit)
    (fun _ _ _=>.no) (fun b x y _=>Bool.rec (motive:=fun _=>RR) y x b) (fun _ _ _ _ _=>.no) (fun _ _ _ _ _=>.no) (fun _ _ _=>.no) (fun _ _ _ _ _=>.no) (fun _ _ _=>.no)
    (fun _ _ _ _ _ _ _ _=>.no) (fun _ _ _=>.no) (fun _ _ _ _=>.no) (fun _ _ _ _ _ _ _ _=>.no) (fun _ _ _=>.no) (fun _ _ _ _=>.no) (fun _ _ _ _ _ _=>.no)
    (fun _ _ _=>.no) (fun _ _ _ _ _=>.no) (fun _ _ _ _ z=>z) () (fun _ _ _ _=>()) v x y z
def guardT(v:AV)(body skip:RR):RR:=gV v body skip skip
def guardF(v:AV)(body skip:RR):RR:=gV v skip body skip
structure GuardC(want:Bool) where
  run:AV→RR→RR→RR
  ok:∀ v x y,run v x y=guardK want v x y
def guardC(want:Bool):GuardC want:=
  match want with
  | true => ⟨guardT, fun v x y => by cases v <;> first | rfl | skip
                                     rename_i b;cases b<;>rfl⟩
  | false => ⟨guardF, fun v x y => by cases v <;> first | rfl | skip
                                      rename_i b;cases b<;>rfl⟩
def guardG(q:AV→RR→RR→RR)(g:F2→LS→AV)(b:Rn)(r:AV→Rn)(call:CallF)(f:F2)(L:LS)(st:St):RR:=q (g f L) (b call f L st) (r undefA call f L st)
def noRn:Rn:=fun _ _ _ _=>.no
def stepC(P:Program)(S:Sta)(ops:Array Oper)(o:Oper)(l:List Oper)(E:En)(C:ContC P S ops l E o.dst):OpsC P S ops (o::l) E:=
  match hgd:o.guard with
  | none => match bodyC P S ops o l E C with
    | ⟨b, hb⟩ => ⟨b, fun call hc f L st f' st' hrun ρ a w hF hL hR hG ro Q hQ => by
      unfold wpListIn
      have:Region.wanted o (yielded ops a.tmps)=true:=by simp only[Region.wanted,hgd]
      rw[this]
      simp only[if_true]
      exact hb call hc f L st f' st' hrun ρ a w hF hL hR hG ro Q hQ⟩
  | some (j, want) => match hd : (ops[j]?).bind (·.dst) with
    | none=>⟨noRn,fun call hc f L st f' st' hrun=>by cases hrun⟩
    | some t => match ht : Nat.blt t S.lim with
      | false=>⟨noRn,fun call hc f L st f' st' hrun=>by cases hrun⟩
      | true => match getC S E (.tmp t), bodyC P S ops o l E C, C, guardC want with
        | ⟨g, hgt⟩, ⟨b, hb⟩, ⟨r, hr⟩, ⟨q, hq⟩ => ⟨guardG q g b r, fun call hc f L st f' st' hrun ρ a w hF hL hR hG ro Q hQ => by
          have hlt:=blt_iff.1 ht
          have hsz:=hF.size
          have hv:=valQ_VR hF hL hG (.tmp t)
          rw[← hgt] at hv
          have hw:=wanted_get (o:=o) (ops:=ops) (tmps:=a.tmps) hgd hd (Nat.lt_of_lt_of_le hlt hsz)
          have hev:a.eval (.tmp t)=a.tmps.getD t undef:=rfl
          rw[hev] at hv
          have hrun:guardK want (g f L) (b call f L st) (r undefA call f L st)=.ok f' st':=by rw[← hq];exact hrun
          unfold guardK at hrun
          unfold wpListIn
          split at hrun
          · rename_i bb hgv
            rw[hgv] at hv
            generalize a.tmps.getD t undef=x at hv hw
            cases hv
            simp only[] at hw
            rw[hw]
            cases hbw:(bb==want) with
            | true =>
              rw[hbw] at hrun
              simp only[if_true]
              exact hb call hc f L st f' st' hrun ρ a w hF hL hR hG ro Q hQ
            | false =>
              rw[hbw] at hrun
              simp only[Bool.false_eq_true,if_false]
              exact⟨fun _ _=>trivial,hr call hc undefA f L st f' st' hrun ρ a w undef (.tup _ _ .nil) hF hL hR hG ro Q hQ⟩
          · rename_i ll hgv
            rw[hgv] at hv
            generalize a.tmps.getD t undef=x at hv hw
            cases hv
            simp only[] at hw
            rw[hw]
            simp only[Bool.false_eq_true,if_false]
            exact⟨fun _ _=>trivial,hr call hc undefA f L st f' st' hrun ρ a w undef (.tup _ _ .nil) hF hL hR hG ro Q hQ⟩
          · cases hrun⟩
def endRn:Rn:=fun _ f _ st=>.ok f st
def listC(P:Program)(S:Sta)(ops:Array Oper):(l:List Oper)→(E:En)→OpsC P S ops l E
  | [],E=>⟨endRn,fun call hc f L st f' st' hrun ρ a w hF hL hR hG ro Q hQ=>by
      cases hrun
      exact hQ ρ a w hF (.refl hR) rfl⟩
  | o::l,E=>stepC P S ops o l E (contC P S ops l E o.dst (listC P S ops l))
end
end
end Go.Ev
