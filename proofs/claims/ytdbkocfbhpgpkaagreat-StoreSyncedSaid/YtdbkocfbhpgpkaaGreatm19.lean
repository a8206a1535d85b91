/-
  The relation once more, over a heap that is a function: a part of it, what lies beside what runs, a block at a place that was kept free.
-/
import Derived.Test.YtdbkocfbhpgpkaaGreatm18
set_option linter.unusedVariables false
set_option linter.unusedSimpArgs false
namespace Go.Ev
open Go
noncomputable section
mutual
def AV.same:AV→AV→Bool
  | .bool a,.bool b=>a==b
  | .int k a,.int k' b=>kindEq k k' && eqI a b
  | .str n b,.str m c=>Nat.beq n m && Nat.beq b c
  | .pnil,.pnil=>true
  | .ptr i o,.ptr j p=>Nat.beq i j && Nat.beq o p
  | .snil,.snil=>true
  | .slice a b c d e,.slice a' b' c' d' e'=>Nat.beq a a' && Nat.beq b b' && Nat.beq c c' && Nat.beq d d' && Nat.beq e e'
  | .mnil,.mnil=>true
  | .map i,.map j=>Nat.beq i j
  | .fnil,.fnil=>true
  | .yield i,.yield j=>Nat.beq i j
  | .inil,.inil=>true
  | .func f a b,.func g c d=>decide (f=g) && AV.sames a c && AV.sames b d
  | .iface t v,.iface u w=>Nat.beq t u && AV.same v w
  | .agg l,.agg m=>AV.sames l m
  | .tup l,.tup m=>AV.sames l m
  | .top,.top=>true
  | _,_=>false
def AV.sames:List AV→List AV→Bool
  | [],[]=>true
  | a::l,b::m=>AV.same a b && AV.sames l m
  | _,_=>false
end
mutual
theorem AV.same_eq:∀ {a b:AV},AV.same a b=true→a=b
  | .bool a,.bool b,h=>by simp[AV.same] at h;rw[h]
  | .int k a,.int k' b,h=>by simp[AV.same,kindEq,eqI_eq] at h;rw[h.1,h.2]
  | .str n b,.str m c,h=>by simp[AV.same] at h;rw[h.1,h.2]
  | .pnil,.pnil,_=>rfl
  | .ptr i o,.ptr j p,h=>by simp[AV.same] at h;rw[h.1,h.2]
  | .snil,.snil,_=>rfl
  | .slice a b c d e,.slice a' b' c' d' e',h=>by simp[AV.same] at h;obtain⟨⟨⟨⟨rfl,rfl⟩,rfl⟩,rfl⟩,rfl⟩:=h;rfl
  | .mnil,.mnil,_=>rfl
  | .map i,.map j,h=>by simp[AV.same] at h;rw[h]
  | .fnil,.fnil,_=>rfl
  | .yield i,.yield j,h=>by simp[AV.same] at h;rw[h]
  | .inil,.inil,_=>rfl
  | .func f a b, .func g c d, h => by
    simp only[AV.same,Bool.and_eq_true,decide_eq_true_eq] at h
    rw[h.1.1,AV.sames_eq h.1.2,AV.sames_eq h.2]
  | .iface t v, .iface u w, h => by
    simp only[AV.same,Bool.and_eq_true,beq_iff] at h
    rw[h.1,AV.same_eq h.2]
  | .agg l,.agg m,h=>by simp only[AV.same] at h;rw[AV.sames_eq h]
  | .tup l,.tup m,h=>by simp only[AV.same] at h;rw[AV.sames_eq h]
  | .top,.top,_=>rfl
theorem AV.sames_eq:∀ {a b:List AV},AV.sames a b=true→a=b
  | [],[],_=>rfl
  | a :: l, b :: m, h => by
    simp only[AV.sames,Bool.and_eq_true] at h
    rw[AV.same_eq h.1,AV.sames_eq h.2]
end
def edgeMask(ms:List Nat):List Edge→Nat
  | []=>0
  | e::l=>bif Region.binds .any e then(2 ^ e.on ||| ms.getD e.on 0) ||| edgeMask ms l else edgeMask ms l
def ancsGo:List Oper→List Nat→List Nat
  | [],ms=>ms
  | o::l,ms=>ancsGo l (ms++[edgeMask ms o.after.toList])
def ancsOf(ops:Array Oper):List Nat:=ancsGo ops.toList []
def memT (t:Nat):List Nat→Bool
  | []=>false
  | x::l=>bif Nat.beq t x then true else memT t l
def touch(ops:Array Oper)(o:Oper):List Tmp:=o.dst.toList++o.looksAt ops
def hvy (P:Program)(o:Oper):Bool:=match clsOf P o.op with | .heavy=>true | _=>false
def conflictD(P:Program)(ops:Array Oper)(a b:Oper):Bool:=
  (match a.dst with | some t=>memT t (touch ops b) | none=>false) || (match b.dst with | some t=>memT t (touch ops a) | none=>false) || (hvy P a && hvy P b)
def okOne(P:Program)(ops:Array Oper)(mask:Nat)(o:Oper):List Oper→Nat→Bool
  | [],_=>true
  | q::l,k=>(bif conflictD P ops q o then Nat.testBit mask k else true) && okOne P ops mask o l (k+1)
def staticOk(P:Program)(ops:Array Oper)(ms:List Nat):List Oper→List Oper→Nat→Bool
  | _,[],_=>true
  | done,o::l,p=>o.after.toList.all (fun e=>!Region.binds .any e || Nat.blt e.on p) && okOne P ops (ms.getD p 0) o done 0 && staticOk P ops ms (done++[o]) l (p+1)
structure DS where
  fr:Fr
  st:St
  pend:List (Nat×Nat×AO)
  hist:List (Nat×St)
  rds:List (Nat×Oper×Fr×AV)
  softs:List (Nat×Nat)
  nid:Nat
def valR (G:Nat)(looks:List Tmp)(fr:Fr):Operand→AV
  | .tmp t=>bif memT t looks then fr.get t else .top
  | .const v=>constA v
  | .global g=>bif Nat.blt g G then .ptr g 0 else .top
  | .func f=>.func (.func f) [] []
def readSame(P:Program)(G:Nat)(ops:Array Oper)(o:Oper)(fr:Fr)(r:AV)(st:St):Bool:=
  match opRead P o.op (valR G (o.looksAt ops) fr) st with
  | some r'=>AV.same r r'
  | none=>false
def histOk(P:Program)(G:Nat)(ops:Array Oper)(o:Oper)(fr:Fr)(r:AV)(mask:Nat):List (Nat×St)→Bool
  | []=>true
  | (h,S)::l=>bif Nat.testBit mask h then true else readSame P G ops o fr r S && histOk P G ops o fr r mask l
def rdsOk(P:Program)(G:Nat)(ops:Array Oper)(mask:Nat)(st:St):List (Nat×Oper×Fr×AV)→Bool
  | []=>true
  | (q,o,fr,r)::l=>(bif Nat.testBit mask q then true else readSame P G ops o fr r st) && rdsOk P G ops mask st l
def matSt(mask:Nat)(st:St):List (Nat×Nat×AO)→St
  | []=>st
  | (q,id,ao)::l=>bif Nat.testBit mask q then(matSt mask st l).put id ao else matSt mask st l
def restP(mask:Nat):List (Nat×Nat×AO)→List (Nat×Nat×AO)
  | []=>[]
  | (q,id,ao)::l=>bif Nat.testBit mask q then restP mask l else(q,id,ao)::restP mask l
def softsOk(mask:Nat)(softs:List (Nat×Nat))(pend:List (Nat×Nat×AO)):Bool:=
  softs.all fun s=>Nat.testBit mask s.1 || pend.all fun x=>!Nat.testBit mask x.1 || !Nat.beq x.2.1 s.2
def pendRow(mask i:Nat)(pend:List (Nat×Nat×AO)):Bool:=pend.any fun x=>Nat.beq x.2.1 i && Nat.testBit mask x.1 && x.2.2.brow
def dFin (o:Oper)(fr:Fr)(r:AV)(st:St)(pend:List (Nat×Nat×AO))(hist:List (Nat×St))(rds:List (Nat×Oper×Fr×AV))(softs:List (Nat×Nat))(nid:Nat):Option (AV×DS):=
  match fr.put o.dst r with
  | some f=>some (r,⟨f,st,pend,hist,rds,softs,nid⟩)
  | none=>none
structure DIn where
  P:Program
  G:Nat
  call:CallF
  ops:Array Oper
  lim:Nat
def dPure(D:DIn)(p mask:Nat)(o:Oper)(s:DS):Option (AV×DS):=
  match s with
  | ⟨fr, st, pend, hist, rds, softs, nid⟩ => match opPureF o.op D.P (valR D.G (o.looksAt D.ops) fr) with
    | some r=>dFin o fr r st pend hist rds softs nid
    | none=>none
def dRead(D:DIn)(p mask:Nat)(o:Oper)(s:DS):Option (AV×DS):=
  match s with
  | ⟨fr, st, pend, hist, rds, softs, nid⟩ => match opRead D.P o.op (valR D.G (o.looksAt D.ops) fr) st with
    | some r=>bif histOk D.P D.G D.ops o fr r mask hist then dFin o fr r st pend hist ((p,o,fr,r)::rds) softs nid else none
    | none=>none
def dAlloc(D:DIn)(p mask:Nat)(o:Oper)(s:DS):Option (AV×DS):=
  match s with
  | ⟨fr, st, pend, hist, rds, softs, nid⟩ => match opAlloc D.P o.op (valR D.G (o.looksAt D.ops) fr) with
    | some (ao,f)=>bif Nat.blt nid D.lim then dFin o fr (f nid) st ((p,nid,ao)::pend) hist rds softs (nid+1) else none
    | none=>none
def dSoft(D:DIn)(p mask:Nat)(o:Oper)(s:DS):Option (AV×DS):=
  match s with
  | ⟨fr, st, pend, hist, rds, softs, nid⟩ => match softA D.P o.op (valR D.G (o.looksAt D.ops) fr) with
    | some (.slice i off len cap es)=>bif pendRow mask i pend then dFin o fr (.slice i off len cap es) st pend hist rds ((p,i)::softs) nid else none
    | _=>none
def dHeavy(D:DIn)(p mask:Nat)(o:Oper)(s:DS):Option (AV×DS):=
  match s with
  | ⟨fr,st,pend,hist,rds,softs,nid⟩=>bif softsOk mask softs pend then
      match opHeavy D.P D.call o.op (valR D.G (o.looksAt D.ops) fr) (matSt mask st pend) with
      | some (r,st')=>bif rdsOk D.P D.G D.ops mask st' rds then dFin o fr r st' (restP mask pend) ((p,st)::hist) rds softs nid else none
      | none=>none
    else none
def dSkip(o:Oper)(s:DS):Option (AV×DS):=
  match s with
  | ⟨fr,st,pend,hist,rds,softs,nid⟩=>dFin o fr undefA st pend hist rds softs nid
def dCls (c:Cls):DIn→Nat→Nat→Oper→DS→Option (AV×DS):=
  match c with
  | .pure=>dPure
  | .read=>dRead
  | .alloc=>dAlloc
  | .soft=>dSoft
  | .heavy=>dHeavy
def DS.frA(s:DS):Fr:=match s with | ⟨fr,_,_,_,_,_,_⟩=>fr
def dStep(D:DIn)(p mask:Nat)(o:Oper)(s:DS):Option (AV×DS):=
  match wantedA D.ops s.frA o with
  | none=>none
  | some false=>dSkip o s
  | some true=>dCls (clsOf D.P o.op) D p mask o s
def thenD(k:DS→Option DS)(r:Option (AV×DS)):Option DS:=
  match r with
  | some (_,s)=>k s
  | none=>none
def dGo (D:DIn)(l:List Oper):List Nat→Nat→DS→Option DS:=
  List.rec (motive:=fun _=>List Nat→Nat→DS→Option DS) (fun _ _ s=>some s)
    (fun o _ ih ms p s=>match ms with
      | m::ms=>thenD (ih ms (p+1)) (dStep D p m o s)
      | []=>none) l
def isAlloc(P:Program)(o:Oper):Bool:=match clsOf P o.op with | .alloc=>true | _=>false
def countA(P:Program):List Oper→Nat
  | []=>0
  | o::l=>bif isAlloc P o then countA P l+1 else countA P l
def deadFrom(h:T AO)(i:Nat):Nat→Bool
  | 0=>true
  | n+1=>!(h.get i).live && deadFrom h (i+1) n
def allPend(st:St):List (Nat×Nat×AO)→St
  | []=>st
  | (_,id,ao)::l=>(allPend st l).put id ao
def drawT(P:Program)(ops:Array Oper):Option (Nat×List Nat):=
  match ancsOf ops with
  | ms=>bif staticOk P ops ms [] ops.toList 0 && Nat.beq ms.length ops.size && Region.noSelect ops then some (countA P ops.toList,ms) else none
def drawEnd(r:Option DS):Option (Fr×St):=
  match r with
  | some ⟨fr,st,pend,_,_,_,_⟩=>some (fr,allPend st pend)
  | none=>none
def evDraw(P:Program)(G:Nat)(call:CallF)(ops:Array Oper)(fr:Fr)(st:St):Option (Fr×St):=
  match drawT P ops with
  | some (n, ms) => match st with
    | ⟨h,d,nx⟩=>bif Nat.ble (nx+n) (2 ^ d) && deadFrom h nx n then
        drawEnd (dGo ⟨P,G,call,ops,nx+n⟩ ops.toList ms 0 ⟨fr,⟨h,d,nx+n⟩,[],[],[],[],nx⟩)
      else none
  | none=>none
end
end Go.Ev
namespace Go.Ev
open Go
noncomputable section
def resA (P:Program)(fr:Fr)(st:St):List ResultVar→Option (List AV)
  | []=>some []
  | .tmp t :: l => match resA P fr st l with
    | some r=>some (fr.get t::r)
    | none=>none
  | .cell a t :: l => match fr.get a with
    | .ptr i off=>match (match aggN P t with
        | some (some n)=>((st.obj i).blk off n).map fun b=>AV.agg b.toL
        | some none=>(st.obj i).cell? off
        | none=>none) with
      | some v => match resA P fr st l with
        | some r=>some (v::r)
        | none=>none
      | none=>none
    | _=>none
def oneA:List AV→AV
  | [v]=>v
  | l=>.tup l
def mkFr (ntmps:Nat)(args:List AV):Fr:=⟨ntmps,depthOf 64 ntmps,(T.full (depthOf 64 ntmps) undefA).setL 0 args,[]⟩
abbrev ExtF:=FuncId→List AV→St→Option (AV×St)
abbrev EvF:=Option Nat→Code→Fr→St→Option (Ex×Fr×St)
def putsA:List Tmp→List AV→Fr→Option Fr
  | [],[],fr=>some fr
  | t :: ts, v :: vs, fr => match fr.put (some t) v with
    | some fr'=>putsA ts vs fr'
    | none=>none
  | _,_,_=>none
def Ex.isNormal:Ex→Bool
  | .normal=>true
  | _=>false
def roundA(ih:EvF)(i:Nat)(args:List AV)(st:St):Option (AV×St):=
  match st.obj i with
  | .loop _ _ fr ps assign body => match putsA ps.toList args (fr.off []) with
    | some fr1 => match ih (some i) assign fr1 st with
      | some (.normal, fr2, st2) => match st2.obj i with
        | .loop .ready p f q x y => match ih (some i) body fr2 (st2.put i (.loop .busy p f q x y)) with
          | some (ex, _, st3) => match st3.obj i with
            | .loop _ _ f q x y=>some (.bool ex.isNormal,st3.put i (.loop (bif ex.isNormal then .ready else .done) ex f q x y))
            | _=>none
          | none=>none
        | _=>none
      | _=>none
    | none=>none
  | _=>none
def evListS(P:Program)(G:Nat)(ops:Array Oper):List Oper→Fr→St→Option (Fr×St)
  | [],fr,st=>some (fr,st)
  | o :: l, fr, st => match wantedA ops fr o with
    | some true => match o.op with
      | .call ⟨.builtin .recover, _, _⟩ => match fr.put o.dst .inil with
        | some fr'=>evListS P G ops l fr' st
        | none=>none
      | op => match opPure P op (valA G fr) with
        | some r => match fr.put o.dst r with
          | some fr'=>evListS P G ops l fr' st
          | none=>none
        | none=>none
    | _=>none
def evDef(P:Program)(G:Nat)(ih:EvF):Nat→Code→Fr→St→Option (Ex×Fr×St)
  | 0,_,_,_=>none
  | n + 1, c, fr, st => match ih none c fr st with
    | some r=>some r
    | none => match c with
      | .seq a b => match evDef P G ih n a fr st with
        | some (.normal,fr',st')=>evDef P G ih n b fr' st'
        | r=>r
      | .cond x a b => match valA G fr x with
        | .bool true=>evDef P G ih n a fr st
        | .bool false=>evDef P G ih n b fr st
        | _=>none
      | .region _ ops false => match evListS P G ops ops.toList fr st with
        | some (fr',st')=>some (.normal,fr',st')
        | none=>none
      | _=>none
def enters(P:Program)(f:Nat):Bool:=
  match P.funcs[f]? with
  | some fn=>fn.body.isSome && !(fn.name == "runtime.NumGoroutine")
  | none=>false
def defCall(P:Program)(G:Nat)(ih:EvF)(f:FuncId)(args:List AV)(st:St):Option St:=
  match P.funcs[f]? with
  | some fn => match fn.body with
    | some c=>bif !(fn.name == "runtime.NumGoroutine") && (Nat.ble args.length fn.ntmps && Nat.ble fn.ntmps (2 ^ depthOf 64 fn.ntmps)) then
        match evDef P G ih 32 c (mkFr fn.ntmps args) st with
        | some (.exit _,_,_)=>none
        | some (_, fr', st') => match fr'.ds with
          | [] => match resA P fr' st' fn.results.toList with
            | some _=>some st'
            | none=>none
          | _=>none
        | none=>none
      else none
    | none=>none
  | none=>none
def leaveA(P:Program)(G:Nat)(ih:EvF):List DA→St→Option St
  | [],st=>some st
  | .mark::l,st=>leaveA P G ih l st
  | .call f args :: l, st => match defCall P G ih f args st with
    | some st'=>leaveA P G ih l st'
    | none=>none
def funA (P:Program)(G:Nat)(ih:EvF)(f:FuncId)(args:List AV)(st:St):Option (AV×St):=
  match P.funcs[f]? with
  | some fn => match fn.body with
    | some c=>bif !(fn.name == "runtime.NumGoroutine") && (Nat.ble args.length fn.ntmps && Nat.ble fn.ntmps (2 ^ depthOf 64 fn.ntmps)) then
        match ih none c (mkFr fn.ntmps args) st with
        | some (.exit _,_,_)=>none
        | some (_, fr', st') => match leaveA P G ih fr'.ds st' with
          | some st'' => match resA P fr' st'' fn.results.toList with
            | some l=>some (oneA l,st'')
            | none=>none
          | none=>none
        | none=>none
      else none
    | none=>none
  | none=>none
def callA(P:Program)(G:Nat)(ext:ExtF)(ih:EvF):CallF:=fun k args st=>
  match k with
  | .func f => match ext f args st with
    | some r=>some r
    | none=>funA P G ih f args st
  | .yield i=>roundA ih i args st
def evListD(P:Program)(G:Nat)(call:CallF)(ops:Array Oper):List Oper→Fr→St→Option (Fr×St)
  | [],fr,st=>some (fr,st)
  | o :: l, fr, st => match o.op with
    | .defer ⟨.value f, args, _⟩ => match wantedA ops fr o with
      | some true => match valA G fr f with
        | .func (.func g) first captured => match fr.put o.dst undefA with
          | some fr'=>evListD P G call ops l (fr'.off (.call g ((first++args.toList.map (valA G fr))++captured)::fr.ds)) st
          | none=>none
        | _=>none
      | _=>none
    | _ => match evOper P G call ops o fr st with
      | some (fr',st')=>evListD P G call ops l (fr'.off fr.ds) st'
      | none=>none
def notBusy:LoopState→Bool
  | .busy=>false
  | _=>true
def roOk (ro:Option Nat)(st:St):Bool:=
  match ro with
  | none=>true
  | some i => match st.obj i with
    | .loop .. => true
    | _=>false
def St.top(st:St):Nat:=match st with | ⟨_,_,n⟩=>n
def offR (ro:Option Nat)(ds:List DA):List DA:=match ro with | none=>.mark::ds | some _=>ds
def evRange(P:Program)(G:Nat)(ext:ExtF)(ih:EvF)(ro:Option Nat)(g:Operand)(ps:Array Tmp)(assign body:Code)(fr:Fr)(st:St):Option (Ex×Fr×St):=
  match valA G fr g with
  | .func (.func f) first captured=>bif enters P f && (st.room && roOk ro st) then
      match callA P G ext ih (.func f) ((first++[.yield st.top])++captured) (st.alloc (.loop .ready .normal fr ps assign body)) with
      | some (_, st') => match st'.obj st.top with
        | .loop s p _ _ _ _=>bif notBusy s then some (p,fr.off (offR ro fr.ds),st'.put st.top .dead) else none
        | _=>none
      | none=>none
    else none
  | _=>none
def evRegion(P:Program)(G:Nat)(call:CallF)(ro:Option Nat)(ops:Array Oper)(draw:Bool)(fr:Fr)(st:St):Option (Ex×Fr×St):=
  match draw with
  | true => match evDraw P G call ops fr st with
    | some (fr',st')=>some (.normal,fr'.off fr.ds,st')
    | none=>none
  | false => match evList P G call ops ops.toList fr st with
    | some (fr',st')=>some (.normal,fr'.off fr.ds,st')
    | none => match ro with
      | none => match evListD P G call ops ops.toList fr st with
        | some (fr',st')=>some (.normal,fr',st')
        | none=>none
      | some _=>none
def evCode(P:Program)(G:Nat)(ext:ExtF)(ih:EvF)(ro:Option Nat):Code→Fr→St→Option (Ex×Fr×St)
  | .skip,fr,st=>some (.normal,fr,st)
  | .label _,fr,st=>some (.normal,fr,st)
  | .scope c,fr,st=>ih ro c fr st
  | .region _ ops draw,fr,st=>evRegion P G (callA P G ext ih) ro ops draw fr st
  | .seq a b, fr, st => match ih ro a fr st with
    | some (.normal,fr',st')=>ih ro b fr' st'
    | r=>r
  | .cond c a b, fr, st => match valA G fr c with
    | .bool true=>ih ro a fr st
    | .bool false=>ih ro b fr st
    | _=>none
  | .block id c, fr, st => match ih ro c fr st with
    | some (.exit j,fr',st')=>bif Nat.beq j id then some (.normal,fr',st') else some (.exit j,fr',st')
    | r=>r
  | .loop c, fr, st => match ih ro c fr st with
    | some (.normal,fr',st')=>ih ro (.loop c) fr' st'
    | r=>r
  | .rangeFunc g ps assign body,fr,st=>evRange P G ext ih ro g ps assign body fr st
  | .exit id,fr,st=>some (.exit id,fr,st)
  | .ret,fr,st=>some (.ret,fr,st)
  | _,_,_=>none
def evN (P:Program)(G:Nat)(ext:ExtF):Nat→EvF
  | 0=>fun _ _ _ _=>none
  | n+1=>evCode P G ext (evN P G ext n)
def St.init(G dep:Nat):St:=⟨T.full dep .dead,dep,G⟩
def isTrue:Option (AV×St)→Bool
  | some (.bool true,_)=>true
  | _=>false
end
end Go.Ev
namespace Go.Ev
open Go
noncomputable section
structure HRel(ρ:Ren)(g:Nat→AO)(n:Nat)(w:World):Prop where
 fresh:∀ i,n≤i→ρ i=none
 live:∀ i,i<n→(g i).live=true→∃ L ob,ρ i=some L∧w.heap[L.b]? = some ob∧ORel ρ L (g i) ob
 inj:∀ i j L M,i<n→j<n→i≠j→(g i).live=true→(g j).writable=true→ρ i=some L→ρ j=some M→L.b≠M.b
structure HGood(ρ:Ren)(g:Nat→AO)(n:Nat)(w:World)(ρ':Ren)(g':Nat→AO)(n':Nat)(w':World):Prop where
 ext:Ext ρ ρ'
 rel:HRel ρ' g' n' w'
 next:n≤n'
 size:w.heap.size≤w'.heap.size
 os:w'.os=w.os
 tape:w'.tape=w.tape
 output:w'.output=w.output
 kept:∀ b,b<w.heap.size→(∀ i L,i<n→(g i).writable=true→ρ i=some L→L.b≠b)→w'.heap[b]? = w.heap[b]?
 owns:∀ i L,i<n'→(g' i).live=true→ρ' i=some L→L.b<w.heap.size →
  ∃ j M,j<n∧(g j).live=true∧ρ j=some M∧M.b=L.b∧((g' i).writable=true→(g j).writable=true)
 dead:∀ i,i<n→(g i).live=false→(g' i).live=false
 old:∀ i,i<n→ρ' i=ρ i
theorem Rel.h{ρ:Ren}{st:St}{w:World}(h:Rel ρ st w):HRel ρ st.heap.get st.next w:=⟨h.fresh,h.live,h.inj⟩
theorem HRel.rel{ρ:Ren}{st:St}{w:World}(h:HRel ρ st.heap.get st.next w)(hok:T.Ok st.dep st.heap)(hlt:st.next≤2 ^ st.dep):Rel ρ st w:=⟨hok,hlt,h.fresh,h.live,h.inj⟩
theorem Good.h{ρ ρ':Ren}{st st':St}{w w':World}(h:Good ρ st w ρ' st' w'):HGood ρ st.heap.get st.next w ρ' st'.heap.get st'.next w':=
 ⟨h.ext,h.rel.h,h.next,h.size,h.os,h.tape,h.output,h.kept,h.owns,h.dead,h.old⟩
theorem HGood.good{ρ ρ':Ren}{st st':St}{w w':World}(h:HGood ρ st.heap.get st.next w ρ' st'.heap.get st'.next w')(hok:T.Ok st'.dep st'.heap)(hlt:st'.next≤2 ^ st'.dep)(hd:st'.dep=st.dep) :
  Good ρ st w ρ' st' w':=⟨h.ext,h.rel.rel hok hlt,hd,h.next,h.size,h.os,h.tape,h.output,h.kept,h.owns,h.dead,h.old⟩
theorem not_live{o:AO}(h:o.live=false):o=.dead:=by cases o<;>simp_all[AO.live]
theorem HGood.congr{ρ ρ':Ren}{g g' g'':Nat→AO}{n n':Nat}{w w':World}(h:HGood ρ g n w ρ' g' n' w')(e:∀ i,i<n'→g'' i=g' i):HGood ρ g n w ρ' g'' n' w':=by
 have hn:=h.next
 refine⟨h.ext,⟨h.rel.fresh,?_,?_⟩,h.next,h.size,h.os,h.tape,h.output,h.kept,?_,?_,h.old⟩
 ·intro i hi hl;rw[e i hi] at hl ⊢;exact h.rel.live i hi hl
 ·intro i j L M hi hj hne hl hw;rw[e i hi] at hl;rw[e j hj] at hw;exact h.rel.inj i j L M hi hj hne hl hw
 ·intro i L hi hl;rw[e i hi] at hl ⊢;exact h.owns i L hi hl
 ·intro i hi hd;rw[e i (by omega)];exact h.dead i hi hd
theorem HRel.sub{ρ:Ren}{g g':Nat→AO}{n:Nat}{w:World}(h:HRel ρ g n w)(hs:∀ i,i<n→(g' i).live=true→g' i=g i):HRel ρ g' n w:=by
 refine⟨h.fresh,?_,?_⟩
 ·intro i hi hl
  have:=hs i hi hl
  rw[this] at hl ⊢
  exact h.live i hi hl
 ·intro i j L M hi hj hne hl hw hL hM
  have h1:=hs i hi hl
  have h2:=hs j hj (AO.live_of_writable hw)
  rw[h1] at hl;rw[h2] at hw
  exact h.inj i j L M hi hj hne hl hw hL hM
theorem HRel.lt{ρ:Ren}{g:Nat→AO}{n:Nat}{w:World}(h:HRel ρ g n w){i:Nat}{L:Loc}(hi:i<n)(hl:(g i).live=true)(hL:ρ i=some L):L.b<w.heap.size:=by
 obtain⟨L',ob,h1,h2,_⟩:=h.live i hi hl
 rw[hL] at h1;cases h1
 exact(Array.getElem?_eq_some_iff.1 h2).1
theorem HGood.frame{ρ ρ':Ren}{g g0 g1 g':Nat→AO}{n n1:Nat}{w w':World}(hR:HRel ρ g n w)(hs:∀ i,i<n→(g0 i).live=true→g0 i=g i)
  (h:HGood ρ g0 n w ρ' g1 n1 w') (hg:∀ i,i<n1→g' i=if i<n∧(g0 i).live=false then g i else g1 i):HGood ρ g n w ρ' g' n1 w':=by
 have hn:=h.next
 have hcase:∀ i,i<n1→(g' i).live=true→(i<n∧(g0 i).live=false∧(g i).live=true∧g' i=g i)∨((g1 i).live=true∧g' i=g1 i∧(i<n→(g0 i).live=true)):=by
  intro i hi hl
  rw[hg i hi] at hl ⊢
  by_cases hc:i<n∧(g0 i).live=false
  ·rw[if_pos hc] at hl ⊢;exact .inl ⟨hc.1,hc.2,hl,rfl⟩
  ·rw[if_neg hc] at hl ⊢
   refine .inr ⟨hl,rfl,fun hin=>?_⟩
   cases hq:(g0 i).live with
   | true=>rfl
   | false=>exact absurd ⟨hin,hq⟩ hc
 have hkeep:∀ i L ob,i<n→(g0 i).live=false→(g i).live=true→ρ i=some L→w.heap[L.b]? = some ob→w'.heap[L.b]? = some ob:=by
  intro i L ob hi hd hl hL hob
  rw[h.kept L.b (Array.getElem?_eq_some_iff.1 hob).1]
  ·exact hob
  ·intro j M hj hjw hM
   have hji:i≠j:=by rintro rfl;rw[AO.live_of_writable hjw] at hd;cases hd
   have hgj:=hs j hj (AO.live_of_writable hjw)
   rw[hgj] at hjw
   exact(hR.inj i j L M hi hj hji hl hjw hL hM).symm
 refine⟨h.ext,⟨h.rel.fresh,?_,?_⟩,h.next,h.size,h.os,h.tape,h.output,?_,?_,?_,h.old⟩
 ·intro i hi hl
  rcases hcase i hi hl with⟨h1,h2,h3,h4⟩|⟨h1,h2,_⟩
  ·rw[h4]
   obtain⟨L,ob,q1,q2,q3⟩:=hR.live i h1 h3
   exact⟨L,ob,h.ext _ _ q1,hkeep i L ob h1 h2 h3 q1 q2,q3.ext h.ext⟩
  ·rw[h2];exact h.rel.live i hi h1
 ·intro i j L M hi hj hne hl hw hL hM
  rcases hcase i hi hl with⟨a1,a2,a3,a4⟩|⟨a1,a2,a5⟩<;>rcases hcase j hj (AO.live_of_writable hw) with⟨b1,b2,b3,b4⟩|⟨b1,b2,b5⟩
  ·rw[b4] at hw
   rw[h.old i a1] at hL
   rw[h.old j b1] at hM
   exact hR.inj i j L M a1 b1 hne a3 hw hL hM
  ·rw[b2] at hw
   rw[h.old i a1] at hL
   have hLlt:=hR.lt a1 a3 hL
   by_cases hb:M.b<w.heap.size
   ·obtain⟨k,K,hk,hkl,hK,hKM,hkw⟩:=h.owns j M hj b1 hM hb
    have hki:i≠k:=by rintro rfl;rw[hkl] at a2;cases a2
    have hgk:=hs k hk hkl
    have hkw':=hkw hw
    rw[hgk] at hkw'
    have:=hR.inj i k L K a1 hk hki a3 hkw' hL hK
    omega
   ·omega
  ·rw[b4] at hw
   rw[h.old j b1] at hM
   have hMlt:=hR.lt b1 b3 hM
   by_cases hb:L.b<w.heap.size
   ·obtain⟨k,K,hk,hkl,hK,hKL,_⟩:=h.owns i L hi a1 hL hb
    have hkj:k≠j:=by rintro rfl;rw[hkl] at b2;cases b2
    have hgk:=hs k hk hkl
    rw[hgk] at hkl
    have:=hR.inj k j K M hk b1 hkj hkl hw hK hM
    omega
   ·omega
  ·rw[b2] at hw
   exact h.rel.inj i j L M hi hj hne a1 hw hL hM
 ·intro b hb hno
  refine h.kept b hb ?_
  intro i L hi hw hL
  have hgi:=hs i hi (AO.live_of_writable hw)
  rw[hgi] at hw
  exact hno i L hi hw hL
 ·intro i L hi hl hL hb
  rcases hcase i hi hl with⟨a1,a2,a3,a4⟩|⟨a1,a2,a5⟩
  ·rw[h.old i a1] at hL
   exact⟨i,L,a1,a3,hL,rfl,by rw[a4];exact id⟩
  ·obtain⟨j,M,hj,hjl,hM,hML,hjw⟩:=h.owns i L hi a1 hL hb
   have hgj:=hs j hj hjl
   rw[hgj] at hjl hjw
   exact⟨j,M,hj,hjl,hM,hML,by rw[a2];exact hjw⟩
 ·intro i hi hd
  rw[hg i (by omega)]
  by_cases hc:(g0 i).live=false
  ·rw[if_pos ⟨hi,hc⟩];exact hd
  ·rw[if_neg (fun q=>hc q.2)]
   have hl:(g0 i).live=true:=by cases hq:(g0 i).live<;>simp_all
   rw[hs i hi hl] at hl
   rw[hl] at hd;cases hd
theorem HGood.trans{ρ₁ ρ₂ ρ₃:Ren}{g₁ g₂ g₃:Nat→AO}{n₁ n₂ n₃:Nat}{w₁ w₂ w₃:World}(h:HGood ρ₁ g₁ n₁ w₁ ρ₂ g₂ n₂ w₂)(g:HGood ρ₂ g₂ n₂ w₂ ρ₃ g₃ n₃ w₃):HGood ρ₁ g₁ n₁ w₁ ρ₃ g₃ n₃ w₃:=by
 refine⟨h.ext.trans g.ext,g.rel,Nat.le_trans h.next g.next,Nat.le_trans h.size g.size,g.os.trans h.os,g.tape.trans h.tape,g.output.trans h.output,?_,?_,?_,?_⟩
 ·intro b hb hno
  rw[g.kept b (Nat.lt_of_lt_of_le hb h.size),h.kept b hb hno]
  intro i L hi hw hρ hLb
  obtain⟨j,M,hj,_,hjρ,hM,hjw⟩:=h.owns i L hi (AO.live_of_writable hw) hρ (by omega)
  exact hno j M hj (hjw hw) hjρ (by omega)
 ·intro i L hi hw hρ hLb
  obtain⟨j,M,hj,hjl,hjρ,hM,hjw⟩:=g.owns i L hi hw hρ (Nat.lt_of_lt_of_le hLb h.size)
  obtain⟨k,N,hk,hkl,hkρ,hN,hkw⟩:=h.owns j M hj hjl hjρ (by omega)
  exact⟨k,N,hk,hkl,hkρ,by omega,fun q=>hkw (hjw q)⟩
 ·intro i hi hd
  exact g.dead i (Nat.lt_of_lt_of_le hi h.next) (h.dead i hi hd)
 ·intro i hi
  rw[g.old i (Nat.lt_of_lt_of_le hi h.next),h.old i hi]
theorem HGood.addAt{ρ₀ ρ:Ren}{g₀ g g':Nat→AO}{n₀ n:Nat}{w₀ w w':World}(h:HGood ρ₀ g₀ n₀ w₀ ρ g n w){id:Nat}{L:Loc}{o:AO}{ob:Obj}(hid:id<n)(hid₀:n₀≤id)
  (hρ:ρ id=none) (hLb:L.b=w.heap.size) (hheap:w'.heap=w.heap.push ob) (hs:SameOut w w') (ho:ORel (ρ.set id L) L o ob)
  (hg:∀ i,i<n→g' i=if i=id then o else g i):HGood ρ₀ g₀ n₀ w₀ (ρ.set id L) g' n w':=by
 have hext:Ext ρ (ρ.set id L):=Ren.ext_set hρ
 have hgd:(g id).live=false:=by
  cases hq:(g id).live with
  | false=>rfl
  | true=>obtain⟨M,_,hM,_⟩:=h.rel.live id hid hq;rw[hρ] at hM;cases hM
 have hblk:∀ b,b<w.heap.size→w'.heap[b]? = w.heap[b]?:=fun b hb=>by rw[hheap,Array.getElem?_push];simp[Nat.ne_of_lt hb]
 have hnew:w'.heap[L.b]? = some ob:=by rw[hheap,hLb];simp
 have hold:∀ i,i≠id→ρ.set id L i=ρ i:=fun i hi=>Ren.set_ne hi
 refine⟨h.ext.trans hext,⟨?_,?_,?_⟩,h.next,by rw[hheap];simp;have:=h.size;omega,hs.os.trans h.os,hs.tape.trans h.tape,hs.output.trans h.output,?_,?_,?_,?_⟩
 ·intro i hi;rw[hold i (by omega)];exact h.rel.fresh i hi
 ·intro i hi hl
  rw[hg i hi] at hl ⊢
  by_cases e:i=id
  ·subst e;rw[if_pos rfl];exact⟨L,ob,Ren.set_same _ _ _,hnew,ho⟩
  ·rw[if_neg e] at hl ⊢
   obtain⟨M,om,q1,q2,q3⟩:=h.rel.live i hi hl
   exact⟨M,om,hext _ _ q1,by rw[hblk _ (Array.getElem?_eq_some_iff.1 q2).1];exact q2,q3.ext hext⟩
 ·intro i j M N hi hj hne hl hw hM hN
  rw[hg i hi] at hl
  rw[hg j hj] at hw
  by_cases e:i=id
  ·subst e
   rw[if_neg (Ne.symm hne)] at hw
   rw[hold j (Ne.symm hne)] at hN
   rw[Ren.set_same] at hM;cases hM
   have:=h.rel.lt hj (AO.live_of_writable hw) hN
   omega
  ·rw[if_neg e] at hl
   rw[hold i e] at hM
   have h1:=h.rel.lt hi hl hM
   by_cases e':j=id
   ·subst e'
    rw[Ren.set_same] at hN;cases hN
    omega
   ·rw[if_neg e'] at hw
    rw[hold j e'] at hN
    exact h.rel.inj i j M N hi hj hne hl hw hM hN
 ·intro b hb hno
  rw[hblk b (Nat.lt_of_lt_of_le hb h.size)]
  exact h.kept b hb hno
 ·intro i M hi hl hM hb
  rw[hg i hi] at hl ⊢
  by_cases e:i=id
  ·subst e;rw[Ren.set_same] at hM;cases hM;have:=h.size;omega
  ·rw[if_neg e] at hl ⊢
   rw[hold i e] at hM
   exact h.owns i M hi hl hM hb
 ·intro i hi hd
  have hn:=h.next
  rw[hg i (by omega),if_neg (by omega)]
  exact h.dead i hi hd
 ·intro i hi
  rw[hold i (by omega)]
  exact h.old i hi
theorem HGood.mark{ρ₀ ρ:Ren}{g₀ g:Nat→AO}{n₀ n:Nat}{w₀ w w':World}(h:HGood ρ₀ g₀ n₀ w₀ ρ g n w){B:Nat}(hs:SameOut w w')(hz:w'.heap.size=w.heap.size)
  (hb:∀ b,w'.heap[b]? = if b=B then(w.heap[b]?).map marked else w.heap[b]?) (hB:w₀.heap.size≤B) (hown:∃ j M,j<n∧(g j).brow=true∧ρ j=some M∧M.b=B):HGood ρ₀ g₀ n₀ w₀ ρ g n w':=by
 refine⟨h.ext,⟨h.rel.fresh,?_,h.rel.inj⟩,h.next,by rw[hz];exact h.size,hs.os.trans h.os,hs.tape.trans h.tape,hs.output.trans h.output,?_,h.owns,h.dead,h.old⟩
 ·intro i hi hl
  obtain⟨L,ob,h1,h2,h3⟩:=h.rel.live i hi hl
  by_cases e:L.b=B
  ·obtain⟨j,M,hj,hjb,hjM,hM⟩:=hown
   have hij:i=j:=by
    by_cases hij:i=j
    ·exact hij
    ·exact absurd (e.trans hM.symm) (h.rel.inj i j L M hi hj hij hl (row_writable (AO.row_of_brow hjb)) h1 hjM)
   subst hij
   exact⟨L,marked ob,h1,by rw[hb,if_pos e,h2];rfl,h3.marked hjb⟩
  ·exact⟨L,ob,h1,by rw[hb,if_neg e];exact h2,h3⟩
 ·intro b hlt hno
  rw[hb,if_neg (by omega)]
  exact h.kept b hlt hno
end
end Go.Ev
