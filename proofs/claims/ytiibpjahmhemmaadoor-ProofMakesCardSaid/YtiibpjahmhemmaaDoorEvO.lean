/-
  The evaluator: control flow and calls.
-/
import Derived.Test.YtiibpjahmhemmaaDoorEvN
namespace Go.Ev
open Go
noncomputable section

inductive Ex where
  | normal
  | ret
  | exit (id : Nat)

def resA (P : Program) (fr : Fr) (st : St) : List ResultVar → Option (List AV)
  | [] => some []
  | .tmp t :: l => match resA P fr st l with
    | some r => some (fr.get t :: r)
    | none => none
  | .cell a t :: l => match fr.get a with
    | .ptr i off => match (match aggN P t with
        | some (some n) => ((st.obj i).blk off n).map fun b => AV.agg b.toL
        | some none => (st.obj i).cell? off
        | none => none) with
      | some v => match resA P fr st l with
        | some r => some (v :: r)
        | none => none
      | none => none
    | _ => none

def oneA : List AV → AV
  | [v] => v
  | l => .tup l

def mkFr (ntmps : Nat) (args : List AV) : Fr := ⟨ntmps, depthOf 64 ntmps, (T.full (depthOf 64 ntmps) undefA).setL 0 args⟩

def callA (P : Program) (ih : Code → Fr → St → Option (Ex × Fr × St)) : CallF := fun f args st =>
  match P.funcs[f]? with
  | some fn => match fn.body with
    | some c => bif Nat.ble args.length fn.ntmps && Nat.ble fn.ntmps (2 ^ depthOf 64 fn.ntmps) then
        match ih c (mkFr fn.ntmps args) st with
        | some (.exit _, _, _) => none
        | some (_, fr', st') => match resA P fr' st' fn.results.toList with
          | some l => some (oneA l, st')
          | none => none
        | none => none
      else none
    | none => none
  | none => none

def evCode (P : Program) (G : Nat) (ih : Code → Fr → St → Option (Ex × Fr × St)) : Code → Fr → St → Option (Ex × Fr × St)
  | .skip, fr, st => some (.normal, fr, st)
  | .region _ ops draw, fr, st => match (bif draw then evDraw P G (callA P ih) ops fr st else evList P G (callA P ih) ops ops.toList fr st) with
    | some (fr', st') => some (.normal, fr', st')
    | none => none
  | .seq a b, fr, st => match ih a fr st with
    | some (.normal, fr', st') => ih b fr' st'
    | r => r
  | .cond c a b, fr, st => match valA G fr c with
    | .bool true => ih a fr st
    | .bool false => ih b fr st
    | _ => none
  | .block id c, fr, st => match ih c fr st with
    | some (.exit j, fr', st') => bif Nat.beq j id then some (.normal, fr', st') else some (.exit j, fr', st')
    | r => r
  | .loop c, fr, st => match ih c fr st with
    | some (.normal, fr', st') => ih (.loop c) fr' st'
    | r => r
  | .exit id, fr, st => some (.exit id, fr, st)
  | .ret, fr, st => some (.ret, fr, st)
  | _, _, _ => none

def evN (P : Program) (G : Nat) : Nat → Code → Fr → St → Option (Ex × Fr × St)
  | 0 => fun _ _ _ => none
  | n + 1 => evCode P G (evN P G n)

def evCall (P : Program) (G : Nat) (fuel : Nat) : CallF := callA P (evN P G fuel)

/-- an empty state: G package variables, of which nothing is known, on a heap of 2^dep places -/
def St.init (G dep : Nat) : St := ⟨T.full dep .dead, dep, G⟩

def isTrue : Option (AV × St) → Bool
  | some (.bool true, _) => true
  | _ => false

end
end Go.Ev
