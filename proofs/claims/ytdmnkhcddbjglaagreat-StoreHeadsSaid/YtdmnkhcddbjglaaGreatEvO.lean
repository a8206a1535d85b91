/-
  The evaluator: control flow, calls, ranges over functions, what is put off.
-/
import Derived.Test.YtdmnkhcddbjglaaGreatEvN
namespace Go.Ev
open Go
noncomputable section

def resA (P : Program) (fr : Fr) (st : St) : List ResultVar → Option (List AV)
  | [] => some []
  | .tmp t :: l => match resA P fr st l with
    | some r => some (fr.get t :: r)
    | none => none
  | .cell a t :: l => match fr.get a with
    | .ptr i off => match (match aggN P t with
        | some (some n) => ((st.obj i).blk off n).map fun b => AV.agg b.toL
        | some none => (st.obj i).cell? off
        | none => none) with
      | some v => match resA P fr st l with
        | some r => some (v :: r)
        | none => none
      | none => none
    | _ => none

def oneA : List AV → AV
  | [v] => v
  | l => .tup l

def mkFr (ntmps : Nat) (args : List AV) : Fr := ⟨ntmps, depthOf 64 ntmps, (T.full (depthOf 64 ntmps) undefA).setL 0 args, []⟩

/-- What is known of some functions without a look at their bodies. -/
abbrev ExtF := FuncId → List AV → St → Option (AV × St)
/-- Code, in a frame of a function, or of a round of the loop whose record is named. -/
abbrev EvF := Option Nat → Code → Fr → St → Option (Ex × Fr × St)

def putsA : List Tmp → List AV → Fr → Option Fr
  | [], [], fr => some fr
  | t :: ts, v :: vs, fr => match fr.put (some t) v with
    | some fr' => putsA ts vs fr'
    | none => none
  | _, _, _ => none

def Ex.isNormal : Ex → Bool
  | .normal => true
  | _ => false

/-- A round: yield is called. -/
def roundA (ih : EvF) (i : Nat) (args : List AV) (st : St) : Option (AV × St) :=
  match st.obj i with
  | .loop _ _ fr ps assign body => match putsA ps.toList args (fr.off []) with
    | some fr1 => match ih (some i) assign fr1 st with
      | some (.normal, fr2, st2) => match st2.obj i with
        | .loop .ready p f q x y => match ih (some i) body fr2 (st2.put i (.loop .busy p f q x y)) with
          | some (ex, _, st3) => match st3.obj i with
            | .loop _ _ f q x y => some (.bool ex.isNormal, st3.put i (.loop (bif ex.isNormal then .ready else .done) ex f q x y))
            | _ => none
          | none => none
        | _ => none
      | _ => none
    | none => none
  | _ => none

/-- A plain list of operations, recover among them, in a frame that is on its way out for a return: there is nothing to recover. -/
def evListS (P : Program) (G : Nat) (ops : Array Oper) : List Oper → Fr → St → Option (Fr × St)
  | [], fr, st => some (fr, st)
  | o :: l, fr, st => match wantedA ops fr o with
    | some true => match o.op with
      | .call ⟨.builtin .recover, _, _⟩ => match fr.put o.dst .inil with
        | some fr' => evListS P G ops l fr' st
        | none => none
      | op => match opPure P op (valA G fr) with
        | some r => match fr.put o.dst r with
          | some fr' => evListS P G ops l fr' st
          | none => none
        | none => none
    | _ => none

/-- The body of a call that was put off. -/
def evDef (P : Program) (G : Nat) (ih : EvF) : Nat → Code → Fr → St → Option (Ex × Fr × St)
  | 0, _, _, _ => none
  | n + 1, c, fr, st => match ih none c fr st with
    | some r => some r
    | none => match c with
      | .seq a b => match evDef P G ih n a fr st with
        | some (.normal, fr', st') => evDef P G ih n b fr' st'
        | r => r
      | .cond x a b => match valA G fr x with
        | .bool true => evDef P G ih n a fr st
        | .bool false => evDef P G ih n b fr st
        | _ => none
      | .region _ ops false => match evListS P G ops ops.toList fr st with
        | some (fr', st') => some (.normal, fr', st')
        | none => none
      | _ => none

/-- the function has a body: a call enters it -/
def enters (P : Program) (f : Nat) : Bool :=
  match P.funcs[f]? with
  | some fn => fn.body.isSome && !(fn.name == "runtime.NumGoroutine")
  | none => false

/-- A call that was put off, of a function that puts nothing off. -/
def defCall (P : Program) (G : Nat) (ih : EvF) (f : FuncId) (args : List AV) (st : St) : Option St :=
  match P.funcs[f]? with
  | some fn => match fn.body with
    | some c => bif !(fn.name == "runtime.NumGoroutine") && (Nat.ble args.length fn.ntmps && Nat.ble fn.ntmps (2 ^ depthOf 64 fn.ntmps)) then
        match evDef P G ih 32 c (mkFr fn.ntmps args) st with
        | some (.exit _, _, _) => none
        | some (_, fr', st') => match fr'.ds with
          | [] => match resA P fr' st' fn.results.toList with
            | some _ => some st'
            | none => none
          | _ => none
        | none => none
      else none
    | none => none
  | none => none

def leaveA (P : Program) (G : Nat) (ih : EvF) : List DA → St → Option St
  | [], st => some st
  | .mark :: l, st => leaveA P G ih l st
  | .call f args :: l, st => match defCall P G ih f args st with
    | some st' => leaveA P G ih l st'
    | none => none

def funA (P : Program) (G : Nat) (ih : EvF) (f : FuncId) (args : List AV) (st : St) : Option (AV × St) :=
  match P.funcs[f]? with
  | some fn => match fn.body with
    | some c => bif !(fn.name == "runtime.NumGoroutine") && (Nat.ble args.length fn.ntmps && Nat.ble fn.ntmps (2 ^ depthOf 64 fn.ntmps)) then
        match ih none c (mkFr fn.ntmps args) st with
        | some (.exit _, _, _) => none
        | some (_, fr', st') => match leaveA P G ih fr'.ds st' with
          | some st'' => match resA P fr' st'' fn.results.toList with
            | some l => some (oneA l, st'')
            | none => none
          | none => none
        | none => none
      else none
    | none => none
  | none => none

def callA (P : Program) (G : Nat) (ext : ExtF) (ih : EvF) : CallF := fun k args st =>
  match k with
  | .func f => match ext f args st with
    | some r => some r
    | none => funA P G ih f args st
  | .yield i => roundA ih i args st

/-- A plain list of operations, some of which put calls off. -/
def evListD (P : Program) (G : Nat) (call : CallF) (ops : Array Oper) : List Oper → Fr → St → Option (Fr × St)
  | [], fr, st => some (fr, st)
  | o :: l, fr, st => match o.op with
    | .defer ⟨.value f, args, _⟩ => match wantedA ops fr o with
      | some true => match valA G fr f with
        | .func (.func g) first captured => match fr.put o.dst undefA with
          | some fr' => evListD P G call ops l (fr'.off (.call g ((first ++ args.toList.map (valA G fr)) ++ captured) :: fr.ds)) st
          | none => none
        | _ => none
      | _ => none
    | _ => match evOper P G call ops o fr st with
      | some (fr', st') => evListD P G call ops l (fr'.off fr.ds) st'
      | none => none

def notBusy : LoopState → Bool
  | .busy => false
  | _ => true

def roOk (ro : Option Nat) (st : St) : Bool :=
  match ro with
  | none => true
  | some i => match st.obj i with
    | .loop .. => true
    | _ => false

def St.top (st : St) : Nat := match st with | ⟨_, _, n⟩ => n

def offR (ro : Option Nat) (ds : List DA) : List DA := match ro with | none => .mark :: ds | some _ => ds

def evRange (P : Program) (G : Nat) (ext : ExtF) (ih : EvF) (ro : Option Nat) (g : Operand) (ps : Array Tmp) (assign body : Code) (fr : Fr) (st : St) : Option (Ex × Fr × St) :=
  match valA G fr g with
  | .func (.func f) first captured => bif enters P f && (st.room && roOk ro st) then
      match callA P G ext ih (.func f) ((first ++ [.yield st.top]) ++ captured) (st.alloc (.loop .ready .normal fr ps assign body)) with
      | some (_, st') => match st'.obj st.top with
        | .loop s p _ _ _ _ => bif notBusy s then some (p, fr.off (offR ro fr.ds), st'.put st.top .dead) else none
        | _ => none
      | none => none
    else none
  | _ => none

def evRegion (P : Program) (G : Nat) (call : CallF) (ro : Option Nat) (ops : Array Oper) (draw : Bool) (fr : Fr) (st : St) : Option (Ex × Fr × St) :=
  match draw with
  | true => match evDraw P G call ops fr st with
    | some (fr', st') => some (.normal, fr'.off fr.ds, st')
    | none => none
  | false => match evList P G call ops ops.toList fr st with
    | some (fr', st') => some (.normal, fr'.off fr.ds, st')
    | none => match ro with
      | none => match evListD P G call ops ops.toList fr st with
        | some (fr', st') => some (.normal, fr', st')
        | none => none
      | some _ => none

def evCode (P : Program) (G : Nat) (ext : ExtF) (ih : EvF) (ro : Option Nat) : Code → Fr → St → Option (Ex × Fr × St)
  | .skip, fr, st => some (.normal, fr, st)
  | .label _, fr, st => some (.normal, fr, st)
  | .scope c, fr, st => ih ro c fr st
  | .region _ ops draw, fr, st => evRegion P G (callA P G ext ih) ro ops draw fr st
  | .seq a b, fr, st => match ih ro a fr st with
    | some (.normal, fr', st') => ih ro b fr' st'
    | r => r
  | .cond c a b, fr, st => match valA G fr c with
    | .bool true => ih ro a fr st
    | .bool false => ih ro b fr st
    | _ => none
  | .block id c, fr, st => match ih ro c fr st with
    | some (.exit j, fr', st') => bif Nat.beq j id then some (.normal, fr', st') else some (.exit j, fr', st')
    | r => r
  | .loop c, fr, st => match ih ro c fr st with
    | some (.normal, fr', st') => ih ro (.loop c) fr' st'
    | r => r
  | .rangeFunc g ps assign body, fr, st => evRange P G ext ih ro g ps assign body fr st
  | .exit id, fr, st => some (.exit id, fr, st)
  | .ret, fr, st => some (.ret, fr, st)
  | _, _, _ => none

def evN (P : Program) (G : Nat) (ext : ExtF) : Nat → EvF
  | 0 => fun _ _ _ _ => none
  | n + 1 => evCode P G ext (evN P G ext n)

def evCall (P : Program) (G : Nat) (ext : ExtF) (fuel : Nat) : CallF := callA P G ext (evN P G ext fuel)

/-- an empty state: G package variables, of which nothing is known, on a heap of 2^dep places -/
def St.init (G dep : Nat) : St := ⟨T.full dep .dead, dep, G⟩

def isTrue : Option (AV × St) → Bool
  | some (.bool true, _) => true
  | _ => false

end
end Go.Ev
