/-
  A quicker evaluator: plain operations, compiled: values reckoned with no look at memory.
-/
import Derived.Test.YtdbkocfbhpgpkaaGreatm46
set_option linter.unusedVariables false
set_option linter.unusedSimpArgs false
namespace Go.Ev
open Go
noncomputable section
def RR.isOk:RR→Prop
  | .no=>False
  | .ok _ _=>True
structure PureC(P:Program)(S:Sta)(E:En)(o:Oper) where
  run:F2→LS→(AV→RR)→RR
  ok:∀ f L k,(run f L k).isOk→∃ v,run f L k=k v∧opPure P o.op (valQ S E f L)=some v
def someR(r:Option AV)(k:AV→RR):RR:=Option.rec (motive:=fun _=>RR) .no k r
theorem someR_ok{r:Option AV}{k:AV→RR}(h:(someR r k).isOk):∃ v,r=some v∧someR r k=k v:=by
  cases r with
  | none=>exact h.elim
  | some v=>exact⟨v,rfl,rfl⟩
def slowP(P:Program)(S:Sta)(E:En)(o:Op)(f:F2)(L:LS)(k:AV→RR):RR:=someR (opPureF o P (valQ S E f L)) k
def slowPC(P:Program)(S:Sta)(E:En)(o:Oper):PureC P S E o:=
  ⟨slowP P S E o.op,fun f L k h=>by
    obtain⟨v,h1,h2⟩:=someR_ok h
    exact⟨v,h2,by rw[← opPureF_eq];exact h1⟩⟩
def moveP(g:F2→LS→AV)(f:F2)(L:LS)(k:AV→RR):RR:=k (g f L)
structure IntC(P:Program)(op:BinOp)(t:TypeId)(x y:Operand) where
  run:IntKind→Int→IntKind→Int→(AV→RR)→RR
  ok:∀ k m k' n c,(run k m k' n c).isOk→∃ v,run k m k' n c=c v∧binA P op t x y (.int k m) (.int k' n)=some v
def intV (v:AV)(f:IntKind→Int→RR):RR:=
  AV.rec (motive_1:=fun _=>(IntKind→Int→RR)→RR) (motive_2:=fun _=>Unit)
    (fun _=>.no) (fun _ _=>.no) (fun k n f=>f k n) (fun _ _ _=>.no) (fun _=>.no) (fun _ _ _=>.no) (fun _=>.no)
    (fun _ _ _ _ _ _=>.no) (fun _=>.no) (fun _ _=>.no) (fun _ _ _ _ _ _=>.no) (fun _=>.no) (fun _ _=>.no) (fun _ _ _ _=>.no)
    (fun _=>.no) (fun _ _ _=>.no) (fun _ _ _=>.no) () (fun _ _ _ _=>()) v f
theorem intV_ok{v:AV}{f:IntKind→Int→RR}(h:(intV v f).isOk):∃ k n,v=.int k n∧intV v f=f k n:=by
  cases v<;>first | exact h.elim | exact⟨_,_,rfl,rfl⟩
def int2P(B:IntKind→Int→IntKind→Int→(AV→RR)→RR)(gx gy:F2→LS→AV)(f:F2)(L:LS)(c:AV→RR):RR:=
  intV (gx f L) (fun k m=>intV (gy f L) (fun k' n=>B k m k' n c))
def slowI(op:BinOp)(k:IntKind)(m:Int)(k':IntKind)(n:Int)(c:AV→RR):RR:=someR (binIntF op k m k' n) c
theorem binIntF_eq(P:Program)(op:BinOp)(t:TypeId)(x y:Operand)(k:IntKind)(m:Int)(k':IntKind)(n:Int):binIntF op k m k' n=binA P op t x y (.int k m) (.int k' n):=
  binF_eq P op t x y (.int k m) (.int k' n)
def slowIC(P:Program)(op:BinOp)(t:TypeId)(x y:Operand):IntC P op t x y:=
  ⟨slowI op,fun k m k' n c h=>by
    obtain⟨v,h1,h2⟩:=someR_ok h
    exact⟨v,h2,by rw[← binIntF_eq];exact h1⟩⟩
def isI64(k:IntKind):Bool:=IntKind.rec (motive:=fun _=>Bool) false false false true false false false false k
theorem isI64_iff{k:IntKind}(h:isI64 k=true):k=.i64:=by cases k<;>first | rfl | cases h
def nat2 (z:RR)(F:Nat→Nat→(AV→RR)→RR→RR)(m n:Int)(c:AV→RR):RR:=
  Int.rec (motive:=fun _=>RR) (fun a=>Int.rec (motive:=fun _=>RR) (fun b=>F a b c z) (fun _=>z) n) (fun _=>z) m
def i64C (op:BinOp)(F:Nat→Nat→(AV→RR)→RR→RR)(k:IntKind)(m:Int)(k':IntKind)(n:Int)(c:AV→RR):RR:=
  Bool.rec (motive:=fun _=>RR) (slowI op k m k' n c) (Bool.rec (motive:=fun _=>RR) (slowI op k m k' n c) (nat2 (slowI op k m k' n c) F m n c) (isI64 k')) (isI64 k)
theorem i64C_ok{P:Program}{op:BinOp}{t:TypeId}{x y:Operand}{F:Nat→Nat→(AV→RR)→RR→RR}
    (hF:∀ a b c z,F a b c z=z∨∃ v,F a b c z=c v∧binA P op t x y (.int .i64 (.ofNat a)) (.int .i64 (.ofNat b))=some v) :
    ∀ k m k' n c,(i64C op F k m k' n c).isOk→∃ v,i64C op F k m k' n c=c v∧binA P op t x y (.int k m) (.int k' n)=some v:=by
  intro k m k' n c h
  have slow:(slowI op k m k' n c).isOk→∃ v,slowI op k m k' n c=c v∧binA P op t x y (.int k m) (.int k' n)=some v:=(slowIC P op t x y).ok k m k' n c
  unfold i64C at h ⊢
  cases h1:isI64 k with
  | false=>rw[h1] at h;exact slow h
  | true =>
    rw[h1] at h
    cases h2:isI64 k' with
    | false=>rw[h2] at h;exact slow h
    | true =>
      rw[h2] at h
      have e1:=isI64_iff h1
      have e2:=isI64_iff h2
      subst e1;subst e2
      cases m with
      | negSucc a=>exact slow h
      | ofNat a =>
        cases n with
        | negSucc b=>exact slow h
        | ofNat b =>
          have h:(F a b c (slowI op .i64 (.ofNat a) .i64 (.ofNat b) c)).isOk:=h
          show ∃ v,F a b c (slowI op .i64 (.ofNat a) .i64 (.ofNat b) c)=c v∧_
          rcases hF a b c (slowI op .i64 (.ofNat a) .i64 (.ofNat b) c) with e|⟨v,e1,e2⟩
          · rw[e] at h ⊢;exact slow h
          · exact⟨v,e1,e2⟩
def sameK(k k':IntKind):Bool:=
  IntKind.rec (motive:=fun _=>Bool)
    (IntKind.rec (motive:=fun _=>Bool) true false false false false false false false k')
    (IntKind.rec (motive:=fun _=>Bool) false true false false false false false false k')
    (IntKind.rec (motive:=fun _=>Bool) false false true false false false false false k')
    (IntKind.rec (motive:=fun _=>Bool) false false false true false false false false k')
    (IntKind.rec (motive:=fun _=>Bool) false false false false true false false false k')
    (IntKind.rec (motive:=fun _=>Bool) false false false false false true false false k')
    (IntKind.rec (motive:=fun _=>Bool) false false false false false false true false k')
    (IntKind.rec (motive:=fun _=>Bool) false false false false false false false true k') k
theorem sameK_eq{k k':IntKind}(h:sameK k k'=true):k=k':=by cases k<;>cases k' <;> first | rfl | cases h
def cmpC (op:BinOp)(F:Nat→Nat→(AV→RR)→RR→RR)(k:IntKind)(m:Int)(k':IntKind)(n:Int)(c:AV→RR):RR:=
  Bool.rec (motive:=fun _=>RR) (slowI op k m k' n c) (nat2 (slowI op k m k' n c) F m n c) (sameK k k')
theorem cmpC_ok{P:Program}{op:BinOp}{t:TypeId}{x y:Operand}{F:Nat→Nat→(AV→RR)→RR→RR}
    (hF:∀ k a b c z,F a b c z=z∨∃ v,F a b c z=c v∧binA P op t x y (.int k (.ofNat a)) (.int k (.ofNat b))=some v) :
    ∀ k m k' n c,(cmpC op F k m k' n c).isOk→∃ v,cmpC op F k m k' n c=c v∧binA P op t x y (.int k m) (.int k' n)=some v:=by
  intro k m k' n c h
  have slow:(slowI op k m k' n c).isOk→∃ v,slowI op k m k' n c=c v∧binA P op t x y (.int k m) (.int k' n)=some v:=(slowIC P op t x y).ok k m k' n c
  unfold cmpC at h ⊢
  cases h1:sameK k k' with
  | false=>rw[h1] at h;exact slow h
  | true =>
    rw[h1] at h
    have e1:=sameK_eq h1
    subst e1
    cases m with
    | negSucc a=>exact slow h
    | ofNat a =>
      cases n with
      | negSucc b=>exact slow h
      | ofNat b =>
        have h:(F a b c (slowI op k (.ofNat a) k (.ofNat b) c)).isOk:=h
        show ∃ v,F a b c (slowI op k (.ofNat a) k (.ofNat b) c)=c v∧_
        rcases hF k a b c (slowI op k (.ofNat a) k (.ofNat b) c) with e|⟨v,e1,e2⟩
        · rw[e] at h ⊢;exact slow h
        · exact⟨v,e1,e2⟩
def addF (a b:Nat)(c:AV→RR)(z:RR):RR:=Bool.rec (motive:=fun _=>RR) z (c (.int .i64 (.ofNat (Nat.add a b)))) (Nat.ble (Nat.add a b) 9223372036854775807)
def mulF (a b:Nat)(c:AV→RR)(z:RR):RR:=Bool.rec (motive:=fun _=>RR) z (c (.int .i64 (.ofNat (Nat.mul a b)))) (Nat.ble (Nat.mul a b) 9223372036854775807)
def subF (a b:Nat)(c:AV→RR)(z:RR):RR:=Bool.rec (motive:=fun _=>RR) z (Bool.rec (motive:=fun _=>RR) z (c (.int .i64 (.ofNat (Nat.sub a b)))) (Nat.ble a 9223372036854775807)) (Nat.ble b a)
def ltF (a b:Nat)(c:AV→RR)(_:RR):RR:=c (.bool (Nat.blt a b))
def leF (a b:Nat)(c:AV→RR)(_:RR):RR:=c (.bool (Nat.ble a b))
def gtF (a b:Nat)(c:AV→RR)(_:RR):RR:=c (.bool (Nat.blt b a))
def geF (a b:Nat)(c:AV→RR)(_:RR):RR:=c (.bool (Nat.ble b a))
def eqF (a b:Nat)(c:AV→RR)(_:RR):RR:=c (.bool (Nat.beq a b))
def neF (a b:Nat)(c:AV→RR)(_:RR):RR:=c (.bool (Bool.rec (motive:=fun _=>Bool) true false (Nat.beq a b)))
theorem wrap64{m:Nat}(h:m≤9223372036854775807):wrapA .i64 (.ofNat m)=.ofNat m:=by
  have h2:Nat.blt m 9223372036854775808=true:=blt_iff.2 (by omega)
  simp only[wrapA,h2,cond_true]
section
variable {P:Program}{t:TypeId}{x y:Operand}
theorem bin64(op:BinOp)(h:isShift op=false)(a b:Int):binA P op t x y (.int .i64 a) (.int .i64 b)=intA op .i64 a b:=by
  cases op<;>first | (cases h;done) | rfl
theorem addF_ok(a b:Nat)(c:AV→RR)(z:RR):addF a b c z=z∨∃ v,addF a b c z=c v∧binA P .add t x y (.int .i64 (.ofNat a)) (.int .i64 (.ofNat b))=some v:=by
  unfold addF
  cases h:Nat.ble (Nat.add a b) 9223372036854775807 with
  | false=>exact .inl rfl
  | true =>
    refine .inr ⟨_,rfl,?_⟩
    rw[bin64 _ rfl]
    show some (AV.int .i64 (wrapA .i64 (.ofNat (Nat.add a b))))=_
    rw[wrap64 (ble_iff.1 h)]
theorem mulF_ok(a b:Nat)(c:AV→RR)(z:RR):mulF a b c z=z∨∃ v,mulF a b c z=c v∧binA P .mul t x y (.int .i64 (.ofNat a)) (.int .i64 (.ofNat b))=some v:=by
  unfold mulF
  cases h:Nat.ble (Nat.mul a b) 9223372036854775807 with
  | false=>exact .inl rfl
  | true =>
    refine .inr ⟨_,rfl,?_⟩
    rw[bin64 _ rfl]
    show some (AV.int .i64 (wrapA .i64 (.ofNat (Nat.mul a b))))=_
    rw[wrap64 (ble_iff.1 h)]
theorem subF_ok(a b:Nat)(c:AV→RR)(z:RR):subF a b c z=z∨∃ v,subF a b c z=c v∧binA P .sub t x y (.int .i64 (.ofNat a)) (.int .i64 (.ofNat b))=some v:=by
  unfold subF
  cases h:Nat.ble b a with
  | false=>exact .inl rfl
  | true =>
    cases h2:Nat.ble a 9223372036854775807 with
    | false=>exact .inl rfl
    | true =>
      refine .inr ⟨_,rfl,?_⟩
      rw[bin64 _ rfl]
      have hle:=ble_iff.1 h
      have hm:=ble_iff.1 h2
      have e:(Int.ofNat a-Int.ofNat b)=Int.ofNat (a-b):=by simp only[Int.ofNat_eq_natCast];omega
      simp only[intA]
      rw[e,wrap64 (by omega)];rfl
theorem binK(op:BinOp)(h:isShift op=false)(k:IntKind)(a b:Int):binA P op t x y (.int k a) (.int k b)=intA op k a b:=by
  cases op<;>first | (cases h;done) | (cases k<;>rfl)
theorem ltF_ok(k:IntKind)(a b:Nat)(c:AV→RR)(z:RR):ltF a b c z=z∨∃ v,ltF a b c z=c v∧binA P .lss t x y (.int k (.ofNat a)) (.int k (.ofNat b))=some v:=
  .inr ⟨_,rfl,by rw[binK _ rfl];rfl⟩
theorem not_blt(a b:Nat):(!Nat.blt b a)=Nat.ble a b:=by
  rw[Bool.eq_iff_iff,Bool.not_eq_true',ble_iff]
  constructor
  · intro h
    rcases Nat.lt_or_ge b a with g|g
    · rw[blt_iff.2 g] at h;cases h
    · exact g
  · intro h
    cases hb:Nat.blt b a with
    | false=>rfl
    | true=>have:=blt_iff.1 hb;omega
theorem leF_ok(k:IntKind)(a b:Nat)(c:AV→RR)(z:RR):leF a b c z=z∨∃ v,leF a b c z=c v∧binA P .leq t x y (.int k (.ofNat a)) (.int k (.ofNat b))=some v:=
  .inr ⟨_,rfl,by rw[binK _ rfl];show some (AV.bool (!Nat.blt b a))=_;rw[not_blt]⟩
theorem gtF_ok(k:IntKind)(a b:Nat)(c:AV→RR)(z:RR):gtF a b c z=z∨∃ v,gtF a b c z=c v∧binA P .gtr t x y (.int k (.ofNat a)) (.int k (.ofNat b))=some v:=
  .inr ⟨_,rfl,by rw[binK _ rfl];rfl⟩
theorem geF_ok(k:IntKind)(a b:Nat)(c:AV→RR)(z:RR):geF a b c z=z∨∃ v,geF a b c z=c v∧binA P .geq t x y (.int k (.ofNat a)) (.int k (.ofNat b))=some v:=
  .inr ⟨_,rfl,by rw[binK _ rfl];show some (AV.bool (!Nat.blt a b))=_;rw[not_blt]⟩
theorem eqF_ok(k:IntKind)(a b:Nat)(c:AV→RR)(z:RR):eqF a b c z=z∨∃ v,eqF a b c z=c v∧binA P .eql t x y (.int k (.ofNat a)) (.int k (.ofNat b))=some v:=
  .inr ⟨_,rfl,by rw[binK _ rfl];rfl⟩
theorem neF_ok(k:IntKind)(a b:Nat)(c:AV→RR)(z:RR):neF a b c z=z∨∃ v,neF a b c z=c v∧binA P .neq t x y (.int k (.ofNat a)) (.int k (.ofNat b))=some v:=
  .inr ⟨_,rfl,by rw[binK _ rfl];show some (AV.bool (!Nat.beq a b))=_;cases Nat.beq a b<;>rfl⟩
end
def small2(a b:Nat):Bool:=and (Nat.ble a 9223372036854775807) (Nat.ble b 9223372036854775807)
def andF (a b:Nat)(c:AV→RR)(z:RR):RR:=Bool.rec (motive:=fun _=>RR) z (c (.int .i64 (.ofNat (Nat.land a b)))) (small2 a b)
def orF (a b:Nat)(c:AV→RR)(z:RR):RR:=Bool.rec (motive:=fun _=>RR) z (c (.int .i64 (.ofNat (Nat.lor a b)))) (small2 a b)
def xorF (a b:Nat)(c:AV→RR)(z:RR):RR:=Bool.rec (motive:=fun _=>RR) z (c (.int .i64 (.ofNat (Nat.xor a b)))) (small2 a b)
def quoF (a b:Nat)(c:AV→RR)(z:RR):RR:=Bool.rec (motive:=fun _=>RR) z (Bool.rec (motive:=fun _=>RR) (c (.int .i64 (.ofNat (Nat.div a b)))) z (Nat.beq b 0)) (Nat.ble a 9223372036854775807)
def remF (a b:Nat)(c:AV→RR)(z:RR):RR:=Bool.rec (motive:=fun _=>RR) (c (.int .i64 (.ofNat (Nat.mod a b)))) z (Nat.beq b 0)
def shlF (a b:Nat)(c:AV→RR)(z:RR):RR:=Bool.rec (motive:=fun _=>RR) z (Bool.rec (motive:=fun _=>RR) z (c (.int .i64 (.ofNat (Nat.mul a (Nat.pow 2 b))))) (Nat.ble (Nat.mul a (Nat.pow 2 b)) 9223372036854775807)) (Nat.ble b 63)
def shrQ (a b:Nat)(c:AV→RR)(z:RR):RR:=Bool.rec (motive:=fun _=>RR) z (c (.int .i64 (.ofNat (Nat.div a (Nat.pow 2 b))))) (Nat.ble b 63)
section
variable {P:Program}{t:TypeId}{x y:Operand}
theorem bits_ok(op:BinOp)(f:Nat→Nat→Nat)(hf:bitNat op=some f)(a b:Nat)(h:small2 a b=true):binA P op t x y (.int .i64 (.ofNat a)) (.int .i64 (.ofNat b))=some (.int .i64 (.ofNat (f a b))):=by
  rw[← binIntF_eq]
  have e:binIntF op .i64 (.ofNat a) .i64 (.ofNat b)=bitsF op .i64 (.ofNat a) (.ofNat b):=by
    cases op<;>first | rfl | (simp[bitNat] at hf)
  rw[e]
  unfold bitsF
  simp only[hf,unsM]
  have h:(and (Nat.ble a (limF .i64)) (Nat.ble b (limF .i64)))=true:=h
  rw[h]
theorem andF_ok(a b:Nat)(c:AV→RR)(z:RR):andF a b c z=z∨∃ v,andF a b c z=c v∧binA P .and t x y (.int .i64 (.ofNat a)) (.int .i64 (.ofNat b))=some v:=by
  unfold andF
  cases h:small2 a b with
  | false=>exact .inl rfl
  | true=>exact .inr ⟨_,rfl,bits_ok .and _ rfl a b h⟩
theorem orF_ok(a b:Nat)(c:AV→RR)(z:RR):orF a b c z=z∨∃ v,orF a b c z=c v∧binA P .or t x y (.int .i64 (.ofNat a)) (.int .i64 (.ofNat b))=some v:=by
  unfold orF
  cases h:small2 a b with
  | false=>exact .inl rfl
  | true=>exact .inr ⟨_,rfl,bits_ok .or _ rfl a b h⟩
theorem xorF_ok(a b:Nat)(c:AV→RR)(z:RR):xorF a b c z=z∨∃ v,xorF a b c z=c v∧binA P .xor t x y (.int .i64 (.ofNat a)) (.int .i64 (.ofNat b))=some v:=by
  unfold xorF
  cases h:small2 a b with
  | false=>exact .inl rfl
  | true=>exact .inr ⟨_,rfl,bits_ok .xor _ rfl a b h⟩
theorem quoF_ok(a b:Nat)(c:AV→RR)(z:RR):quoF a b c z=z∨∃ v,quoF a b c z=c v∧binA P .quo t x y (.int .i64 (.ofNat a)) (.int .i64 (.ofNat b))=some v:=by
  unfold quoF
  cases h:Nat.ble a 9223372036854775807 with
  | false=>exact .inl rfl
  | true =>
    cases h2:Nat.beq b 0 with
    | true=>exact .inl rfl
    | false =>
      refine .inr ⟨_,rfl,?_⟩
      rw[bin64 _ rfl]
      have he:eqI (.ofNat b) 0=false:=by
        rw[← h2];rfl
      have hw:wrapA .i64 (.ofNat (Nat.div a b))=.ofNat (Nat.div a b):=wrap64 (Nat.le_trans (Nat.div_le_self a b) (ble_iff.1 h))
      simp only[intA,he,cond_false]
      have e:(Int.ofNat a).tdiv (Int.ofNat b)=Int.ofNat (Nat.div a b):=rfl
      rw[e,hw]
theorem remF_ok(a b:Nat)(c:AV→RR)(z:RR):remF a b c z=z∨∃ v,remF a b c z=c v∧binA P .rem t x y (.int .i64 (.ofNat a)) (.int .i64 (.ofNat b))=some v:=by
  unfold remF
  cases h2:Nat.beq b 0 with
  | true=>exact .inl rfl
  | false =>
    refine .inr ⟨_,rfl,?_⟩
    rw[bin64 _ rfl]
    have he:eqI (.ofNat b) 0=false:=by
      rw[← h2];rfl
    simp only[intA,he,cond_false]
    rfl
theorem shlF_ok(a b:Nat)(c:AV→RR)(z:RR):shlF a b c z=z∨∃ v,shlF a b c z=c v∧binA P .shl t x y (.int .i64 (.ofNat a)) (.int .i64 (.ofNat b))=some v:=by
  unfold shlF
  cases h:Nat.ble b 63 with
  | false=>exact .inl rfl
  | true =>
    cases h2:Nat.ble (Nat.mul a (Nat.pow 2 b)) 9223372036854775807 with
    | false=>exact .inl rfl
    | true =>
      refine .inr ⟨_,rfl,?_⟩
      rw[← binIntF_eq]
      have hm:min b 64=b:=by have:=ble_iff.1 h;omega
      show some (AV.int .i64 (wrapA .i64 (Int.ofNat a * ((2 ^ min b 64:Nat):Int))))=_
      rw[hm]
      have e:Int.ofNat a * ((2 ^ b:Nat):Int)=Int.ofNat (Nat.mul a (Nat.pow 2 b)):=rfl
      rw[e,wrap64 (ble_iff.1 h2)]
theorem shrQ_ok(a b:Nat)(c:AV→RR)(z:RR):shrQ a b c z=z∨∃ v,shrQ a b c z=c v∧binA P .shr t x y (.int .i64 (.ofNat a)) (.int .i64 (.ofNat b))=some v:=by
  unfold shrQ
  cases h:Nat.ble b 63 with
  | false=>exact .inl rfl
  | true =>
    refine .inr ⟨_,rfl,?_⟩
    rw[← binIntF_eq]
    have hm:min b 64=b:=by have:=ble_iff.1 h;omega
    show some (AV.int .i64 (.ofNat (Nat.div a (Nat.pow 2 (min b 64)))))=_
    rw[hm]
end
def isU8K(k:IntKind):Bool:=IntKind.rec (motive:=fun _=>Bool) false false false false true false false false k
theorem isU8K_eq{k:IntKind}(h:isU8K k=true):k=.u8:=by cases k<;>first | rfl | cases h
def u8C (F:Nat→Nat→Nat)(s:IntKind→Int→IntKind→Int→(AV→RR)→RR)(k:IntKind)(m:Int)(k':IntKind)(n:Int)(c:AV→RR):RR:=
  Bool.rec (motive:=fun _=>RR) (s k m k' n c) (Bool.rec (motive:=fun _=>RR) (s k m k' n c) (nat2 (s k m k' n c) (fun a b c _=>c (.int .u8 (.ofNat (Nat.mod (F a b) 256)))) m n c) (isU8K k')) (isU8K k)
theorem u8C_ok{P:Program}{op:BinOp}{t:TypeId}{x y:Operand}{F:Nat→Nat→Nat}(hF:bitNat op=some F){s:IntKind→Int→IntKind→Int→(AV→RR)→RR}
    (hs:∀ k m k' n c,(s k m k' n c).isOk→∃ v,s k m k' n c=c v∧binA P op t x y (.int k m) (.int k' n)=some v) :
    ∀ k m k' n c,(u8C F s k m k' n c).isOk→∃ v,u8C F s k m k' n c=c v∧binA P op t x y (.int k m) (.int k' n)=some v:=by
  intro k m k' n c h
  unfold u8C at h ⊢
  cases h1:isU8K k with
  | false=>rw[h1] at h;exact hs k m k' n c h
  | true =>
    rw[h1] at h
    cases h2:isU8K k' with
    | false=>rw[h2] at h;exact hs k m k' n c h
    | true =>
      rw[h2] at h
      have e1:=isU8K_eq h1
      have e2:=isU8K_eq h2
      subst e1;subst e2
      cases m with
      | negSucc a=>exact hs _ _ _ _ c h
      | ofNat a =>
        cases n with
        | negSucc b=>exact hs _ _ _ _ c h
        | ofNat b =>
          refine⟨.int .u8 (.ofNat (Nat.mod (F a b) 256)),rfl,?_⟩
          rw[← binIntF_eq]
          have e:binIntF op .u8 (.ofNat a) .u8 (.ofNat b)=bitsF op .u8 (.ofNat a) (.ofNat b):=by
            cases op<;>first | rfl | (simp[bitNat] at hF)
          rw[e]
          unfold bitsF
          simp only[hF,unsM]
def shlB (s:IntKind→Int→IntKind→Int→(AV→RR)→RR)(k:IntKind)(m:Int)(k':IntKind)(n:Int)(c:AV→RR):RR:=
  Bool.rec (motive:=fun _=>RR) (s k m k' n c) (nat2 (s k m k' n c) (fun a b c z=>Bool.rec (motive:=fun _=>RR) z (c (.int .u8 (.ofNat (Nat.mod (Nat.mul a (Nat.pow 2 b)) 256)))) (Nat.ble b 7)) m n c) (isU8K k)
theorem shlB_ok{P:Program}{t:TypeId}{x y:Operand}{s:IntKind→Int→IntKind→Int→(AV→RR)→RR}
    (hs:∀ k m k' n c,(s k m k' n c).isOk→∃ v,s k m k' n c=c v∧binA P .shl t x y (.int k m) (.int k' n)=some v) :
    ∀ k m k' n c,(shlB s k m k' n c).isOk→∃ v,shlB s k m k' n c=c v∧binA P .shl t x y (.int k m) (.int k' n)=some v:=by
  intro k m k' n c h
  unfold shlB at h ⊢
  cases h1:isU8K k with
  | false=>rw[h1] at h;exact hs k m k' n c h
  | true =>
    rw[h1] at h
    have e1:=isU8K_eq h1
    subst e1
    cases m with
    | negSucc a=>exact hs _ _ _ _ c h
    | ofNat a =>
      cases n with
      | negSucc b=>exact hs _ _ _ _ c h
      | ofNat b =>
        have h:(Bool.rec (motive:=fun _=>RR) (s .u8 (.ofNat a) k' (.ofNat b) c) (c (.int .u8 (.ofNat (Nat.mod (Nat.mul a (Nat.pow 2 b)) 256)))) (Nat.ble b 7):RR).isOk:=h
        show ∃ v,(Bool.rec (motive:=fun _=>RR) (s .u8 (.ofNat a) k' (.ofNat b) c) (c (.int .u8 (.ofNat (Nat.mod (Nat.mul a (Nat.pow 2 b)) 256)))) (Nat.ble b 7):RR)=c v∧_
        cases hb:Nat.ble b 7 with
        | false=>rw[hb] at h;exact hs _ _ _ _ c h
        | true =>
          refine⟨_,rfl,?_⟩
          rw[← binIntF_eq]
          have hm:min b 8=b:=by have:=ble_iff.1 hb;omega
          show some (AV.int .u8 (wrapA .u8 (Int.ofNat a * ((2 ^ min b 8:Nat):Int))))=_
          rw[hm]
          rfl
def intC (P:Program)(op:BinOp)(t:TypeId)(x y:Operand):IntC P op t x y:=
  match op with
  | .add=>⟨i64C .add addF,i64C_ok addF_ok⟩
  | .sub=>⟨i64C .sub subF,i64C_ok subF_ok⟩
  | .mul=>⟨i64C .mul mulF,i64C_ok mulF_ok⟩
  | .lss=>⟨cmpC .lss ltF,cmpC_ok ltF_ok⟩
  | .leq=>⟨cmpC .leq leF,cmpC_ok leF_ok⟩
  | .gtr=>⟨cmpC .gtr gtF,cmpC_ok gtF_ok⟩
  | .geq=>⟨cmpC .geq geF,cmpC_ok geF_ok⟩
  | .eql=>⟨cmpC .eql eqF,cmpC_ok eqF_ok⟩
  | .neq=>⟨cmpC .neq neF,cmpC_ok neF_ok⟩
  | .and=>⟨u8C Nat.land (i64C .and andF),u8C_ok rfl (i64C_ok andF_ok)⟩
  | .or=>⟨u8C Nat.lor (i64C .or orF),u8C_ok rfl (i64C_ok orF_ok)⟩
  | .xor=>⟨u8C Nat.xor (i64C .xor xorF),u8C_ok rfl (i64C_ok xorF_ok)⟩
  | .quo=>⟨i64C .quo quoF,i64C_ok quoF_ok⟩
  | .rem=>⟨i64C .rem remF,i64C_ok remF_ok⟩
  | .shl=>⟨shlB (i64C .shl shlF),shlB_ok (i64C_ok shlF_ok)⟩
  | .shr=>⟨i64C .shr shrQ,i64C_ok shrQ_ok⟩
  | op=>slowIC P op t x y
def isIntT(P:Program)(t:TypeId):Bool:=match P.underlying t with | some (.int _)=>true | _=>false
theorem int2P_ok{P:Program}{S:Sta}{E:En}{op:BinOp}{t:TypeId}{x y:Operand}{ty:TypeId}{o:Oper}(ho:o.op=.binOp op t x y ty)(gx:GetC S E x)(gy:GetC S E y)(B:IntC P op t x y)(f:F2)(L:LS)(c:AV→RR)
    (h:(int2P B.run gx.run gy.run f L c).isOk):∃ v,int2P B.run gx.run gy.run f L c=c v∧opPure P o.op (valQ S E f L)=some v:=by
  unfold int2P at h ⊢
  obtain⟨k,m,e1,e2⟩:=intV_ok h
  rw[e2] at h ⊢
  obtain⟨k',n,e3,e4⟩:=intV_ok h
  rw[e4] at h ⊢
  obtain⟨v,e5,e6⟩:=B.ok k m k' n c h
  refine⟨v,e5,?_⟩
  rw[ho]
  simp only[opPure]
  rw[← gx.ok,← gy.ok,e1,e3]
  exact e6
def ptrV (v:AV)(f:Nat→Nat→RR):RR:=
  AV.rec (motive_1:=fun _=>(Nat→Nat→RR)→RR) (motive_2:=fun _=>Unit)
    (fun _=>.no) (fun _ _=>.no) (fun _ _ _=>.no) (fun _ _ _=>.no) (fun _=>.no) (fun i o f=>f i o) (fun _=>.no)
    (fun _ _ _ _ _ _=>.no) (fun _=>.no) (fun _ _=>.no) (fun _ _ _ _ _ _=>.no) (fun _=>.no) (fun _ _=>.no) (fun _ _ _ _=>.no)
    (fun _=>.no) (fun _ _ _=>.no) (fun _ _ _=>.no) () (fun _ _ _ _=>()) v f
theorem ptrV_ok{v:AV}{f:Nat→Nat→RR}(h:(ptrV v f).isOk):∃ i o,v=.ptr i o∧ptrV v f=f i o:=by
  cases v<;>first | exact h.elim | exact⟨_,_,rfl,rfl⟩
def slV (v:AV)(z:RR)(f:Nat→Nat→Nat→Nat→Nat→RR):RR:=
  AV.rec (motive_1:=fun _=>RR→(Nat→Nat→Nat→Nat→Nat→RR)→RR) (motive_2:=fun _=>Unit)
    (fun _ _=>.no) (fun _ _ _=>.no) (fun _ _ _ _=>.no) (fun _ _ _ _=>.no) (fun _ _=>.no) (fun _ _ _ _=>.no) (fun z _=>z)
    (fun i o n c e _ f=>f i o n c e) (fun _ _=>.no) (fun _ _ _=>.no) (fun _ _ _ _ _ _ _=>.no) (fun _ _=>.no) (fun _ _ _=>.no) (fun _ _ _ _ _=>.no)
    (fun _ _=>.no) (fun _ _ _ _=>.no) (fun _ _ _ _=>.no) () (fun _ _ _ _=>()) v z f
theorem slV_ok{v:AV}{z:RR}{f:Nat→Nat→Nat→Nat→Nat→RR}(h:(slV v z f).isOk):(v=.snil∧slV v z f=z)∨∃ i o n c e,v=.slice i o n c e∧slV v z f=f i o n c e:=by
  cases v<;>first | exact h.elim | exact .inl ⟨rfl,rfl⟩ | exact .inr ⟨_,_,_,_,_,rfl,rfl⟩
def tupV (v:AV)(f:List AV→RR):RR:=
  AV.rec (motive_1:=fun _=>(List AV→RR)→RR) (motive_2:=fun _=>Unit)
    (fun _=>.no) (fun _ _=>.no) (fun _ _ _=>.no) (fun _ _ _=>.no) (fun _=>.no) (fun _ _ _=>.no) (fun _=>.no)
    (fun _ _ _ _ _ _=>.no) (fun _=>.no) (fun _ _=>.no) (fun _ _ _ _ _ _=>.no) (fun _=>.no) (fun _ _=>.no) (fun _ _ _ _=>.no)
    (fun _=>.no) (fun _ _ _=>.no) (fun l _ f=>f l) () (fun _ _ _ _=>()) v f
theorem tupV_ok{v:AV}{f:List AV→RR}(h:(tupV v f).isOk):∃ l,v=.tup l∧tupV v f=f l:=by
  cases v<;>first | exact h.elim | exact⟨_,rfl,rfl⟩
def boolV(v:AV)(f:Bool→RR):RR:=
  AV.rec (motive_1:=fun _=>(Bool→RR)→RR) (motive_2:=fun _=>Unit)
    (fun _=>.no) (fun b f=>f b) (fun _ _ _=>.no) (fun _ _ _=>.no) (fun _=>.no) (fun _ _ _=>.no) (fun _=>.no)
    (fun _ _ _ _ _ _=>.no) (fun _=>.no) (fun _ _=>.no) (fun _ _ _ _ _ _=>.no) (fun _=>.no) (fun _ _=>.no) (fun _ _ _ _=>.no)
    (fun _=>.no) (fun _ _ _=>.no) (fun _ _ _=>.no) () (fun _ _ _ _=>()) v f
theorem boolV_ok{v:AV}{f:Bool→RR}(h:(boolV v f).isOk):∃ b,v=.bool b∧boolV v f=f b:=by
  cases v<;>first | exact h.elim | exact⟨_,rfl,rfl⟩
def natV (n:Int)(f:Nat→RR):RR:=Int.rec (motive:=fun _=>RR) f (fun _=>.no) n
theorem natV_ok{n:Int}{f:Nat→RR}(h:(natV n f).isOk):∃ a,n=.ofNat a∧natV n f=f a:=by
  cases n<;>first | exact h.elim | exact⟨_,rfl,rfl⟩
def ifR (b:Bool)(x:RR):RR:=Bool.rec (motive:=fun _=>RR) .no x b
theorem ifR_ok{b:Bool}{x:RR}(h:(ifR b x).isOk):b=true∧ifR b x=x:=by
  cases b
  · exact h.elim
  · exact⟨rfl,rfl⟩
def faR (off:Nat)(g:F2→LS→AV)(f:F2)(L:LS)(k:AV→RR):RR:=ptrV (g f L) (fun i o=>k (.ptr i (Nat.add o off)))
def iaR (es:Nat)(g h:F2→LS→AV)(f:F2)(L:LS)(k:AV→RR):RR:=
  slV (g f L) .no (fun i o n _ _=>intV (h f L) (fun _ m=>natV m (fun a=>ifR (Nat.blt a n) (k (.ptr i (Nat.add o (Nat.mul a es)))))))
def lenR (g:F2→LS→AV)(f:F2)(L:LS)(k:AV→RR):RR:=slV (g f L) (k (.int .i64 (.ofNat 0))) (fun _ _ n _ _=>k (.int .i64 (.ofNat n)))
def hdR (l:List AV)(f:AV→RR):RR:=List.rec (motive:=fun _=>RR) .no (fun v _ _=>f v) l
def tlL (l:List AV):List AV:=List.rec (motive:=fun _=>List AV) [] (fun _ t _=>t) l
def nthR:Nat→List AV→(AV→RR)→RR
  | 0,l,f=>hdR l f
  | n+1,l,f=>nthR n (tlL l) f
theorem nthR_ok:∀ (n:Nat) (l:List AV) (f:AV→RR),(nthR n l f).isOk→∃ v,l[n]? = some v∧nthR n l f=f v
  | 0,[],_,h=>h.elim
  | 0,v::l,f,_=>⟨v,rfl,rfl⟩
  | n + 1, [], f, h => by
    obtain⟨v,h1,_⟩:=nthR_ok n [] f h
    simp at h1
  | n + 1, v :: l, f, h => by
    obtain⟨u,h1,h2⟩:=nthR_ok n l f h
    exact⟨u,by simpa using h1,h2⟩
structure NthC(n:Nat) where
  run:List AV→(AV→RR)→RR
  ok:∀ l f,run l f=nthR n l f
def nthS (r:List AV→(AV→RR)→RR)(l:List AV)(f:AV→RR):RR:=r (tlL l) f
def nthC:(n:Nat)→NthC n
  | 0=>⟨hdR,fun _ _=>rfl⟩
  | n + 1 => match nthC n with
    | ⟨r,hr⟩=>⟨nthS r,fun l f=>by unfold nthS;rw[hr];rfl⟩
def exR (r:List AV→(AV→RR)→RR)(g:F2→LS→AV)(f:F2)(L:LS)(k:AV→RR):RR:=tupV (g f L) (fun l=>r l k)
def pkR (c a b:F2→LS→AV)(f:F2)(L:LS)(k:AV→RR):RR:=boolV (c f L) (fun t=>Bool.rec (motive:=fun _=>RR) (k (b f L)) (k (a f L)) t)
def ptrZ (v:AV)(z:RR)(f:Nat→Nat→RR):RR:=
  AV.rec (motive_1:=fun _=>RR→(Nat→Nat→RR)→RR) (motive_2:=fun _=>Unit)
    (fun z _=>z) (fun _ z _=>z) (fun _ _ z _=>z) (fun _ _ z _=>z) (fun z _=>z) (fun i o _ f=>f i o) (fun z _=>z)
    (fun _ _ _ _ _ z _=>z) (fun z _=>z) (fun _ z _=>z) (fun _ _ _ _ _ z _=>z) (fun z _=>z) (fun _ z _=>z) (fun _ _ _ z _=>z)
    (fun z _=>z) (fun _ _ z _=>z) (fun _ _ z _=>z) () (fun _ _ _ _=>()) v z f
theorem ptrZ_ok{v:AV}{z:RR}{f:Nat→Nat→RR}:(∃ i o,v=.ptr i o∧ptrZ v z f=f i o)∨ptrZ v z f=z:=by
  cases v<;>first | exact .inr rfl | exact .inl ⟨_,_,rfl,rfl⟩
def ncZ (s:F2→LS→(AV→RR)→RR)(g:F2→LS→AV)(f:F2)(L:LS)(k:AV→RR):RR:=ptrZ (g f L) (s f L k) (fun i o=>k (.ptr i o))
def notR (g:F2→LS→AV)(f:F2)(L:LS)(k:AV→RR):RR:=boolV (g f L) (fun b=>k (.bool (Bool.rec (motive:=fun _=>Bool) true false b)))
structure WrapC(q:IntKind) where
  run:Int→Int
  ok:∀ n,run n=wrapA q n
def wrapU(M:Nat)(q:IntKind)(n:Int):Int:=Int.rec (motive:=fun _=>Int) (fun m=>.ofNat (Nat.mod m M)) (fun m=>wrapA q (.negSucc m)) n
def wrapS(n:Int):Int:=Int.rec (motive:=fun _=>Int) (fun m=>Bool.rec (motive:=fun _=>Int) (wrapA .i64 (.ofNat m)) (.ofNat m) (Nat.ble m 9223372036854775807)) (fun m=>wrapA .i64 (.negSucc m)) n
def wrapC(q:IntKind):WrapC q:=
  match q with
  | .u8=>⟨wrapU 256 .u8,fun n=>by cases n<;>rfl⟩
  | .u16=>⟨wrapU 65536 .u16,fun n=>by cases n<;>rfl⟩
  | .u32=>⟨wrapU 4294967296 .u32,fun n=>by cases n<;>rfl⟩
  | .u64=>⟨wrapU 18446744073709551616 .u64,fun n=>by cases n<;>rfl⟩
  | .i64=>⟨wrapS,fun n=>by
      cases n with
      | negSucc m=>rfl
      | ofNat m =>
        show Bool.rec (motive:=fun _=>Int) (wrapA .i64 (.ofNat m)) (.ofNat m) (Nat.ble m 9223372036854775807)=_
        cases hb:Nat.ble m 9223372036854775807 with
        | false=>rfl
        | true=>rw[wrap64 (ble_iff.1 hb)]⟩
  | q=>⟨wrapA q,fun _=>rfl⟩
def cvR (q:IntKind)(W:Int→Int)(g:F2→LS→AV)(f:F2)(L:LS)(k:AV→RR):RR:=intV (g f L) (fun _ n=>k (.int q (W n)))
def strV (v:AV)(f:Nat→Nat→RR):RR:=
  AV.rec (motive_1:=fun _=>(Nat→Nat→RR)→RR) (motive_2:=fun _=>Unit)
    (fun _=>.no) (fun _ _=>.no) (fun _ _ _=>.no) (fun n b f=>f n b) (fun _=>.no) (fun _ _ _=>.no) (fun _=>.no)
    (fun _ _ _ _ _ _=>.no) (fun _=>.no) (fun _ _=>.no) (fun _ _ _ _ _ _=>.no) (fun _=>.no) (fun _ _=>.no) (fun _ _ _ _=>.no)
    (fun _=>.no) (fun _ _ _=>.no) (fun _ _ _=>.no) () (fun _ _ _ _=>()) v f
theorem strV_ok{v:AV}{f:Nat→Nat→RR}(h:(strV v f).isOk):∃ n b,v=.str n b∧strV v f=f n b:=by
  cases v<;>first | exact h.elim | exact⟨_,_,rfl,rfl⟩
def lenS (g:F2→LS→AV)(f:F2)(L:LS)(k:AV→RR):RR:=strV (g f L) (fun n _=>k (.int .i64 (.ofNat n)))
abbrev PureOk(P:Program)(S:Sta)(E:En)(o:Oper)(run:F2→LS→(AV→RR)→RR):Prop:=∀ f L k,(run f L k).isOk→∃ v,run f L k=k v∧opPure P o.op (valQ S E f L)=some v
section
variable {P:Program}{S:Sta}{E:En}{o:Oper}
theorem move_pok{x:Operand}(ho:o.op=.move x∨o.op=.assign x){g:F2→LS→AV}(hg:∀ f L,g f L=valQ S E f L x):PureOk P S E o (moveP g):=
  fun f L k _=>⟨g f L,rfl,by rcases ho with ho | ho<;>rw[ho,hg]<;>rfl⟩
def moveC{x:Operand}(ho:o.op=.move x∨o.op=.assign x):PureC P S E o:=GetC.rec (motive:=fun _=>PureC P S E o) (fun g hg=>⟨moveP g,move_pok ho hg⟩) (getC S E x)
theorem fa_pok{s:TypeId}{x:Operand}{fd off:Nat}(ho:o.op=.fieldAddr s x fd)(hf:fieldOff P s fd=some off){g:F2→LS→AV}(hg:∀ f L,g f L=valQ S E f L x):PureOk P S E o (faR off g):=
  fun f L k h=>by
    obtain⟨i,o',h1,h2⟩:=ptrV_ok h
    exact⟨_,h2,by rw[ho];simp only[opPure];rw[← hg,h1,hf];rfl⟩
def faC {s:TypeId}{x:Operand}{fd:Nat}(ho:o.op=.fieldAddr s x fd):PureC P S E o:=
  match hf:fieldOff P s fd with
  | some off=>GetC.rec (motive:=fun _=>PureC P S E o) (fun g hg=>⟨faR off g,fa_pok ho hf hg⟩) (getC S E x)
  | none=>slowPC P S E o
theorem ia_pok{t e:TypeId}{x ix:Operand}{es:Nat}(ho:o.op=.indexAddr t x ix)(ht:P.underlying t=some (.slice e))(hs:szOf P e=some es){g q:F2→LS→AV}(hg:∀ f L,g f L=valQ S E f L x)(hq:∀ f L,q f L=valQ S E f L ix):PureOk P S E o (iaR es g q):=
  fun f L k h=>by
          rcases slV_ok h with⟨h1,h2⟩|⟨i,o',n,c,e',h1,h2⟩
          · rw[show iaR es g q f L k=RR.no from h2] at h;exact h.elim
          · have h:(intV (q f L) (fun _ m=>natV m (fun a=>ifR (Nat.blt a n) (k (.ptr i (Nat.add o' (Nat.mul a es))))))).isOk:=by rw[← h2];exact h
            obtain⟨kk,m,h3,h4⟩:=intV_ok h
            rw[h4] at h
            obtain⟨a,rfl,h6⟩:=natV_ok h
            rw[h6] at h
            obtain⟨h7,h8⟩:=ifR_ok h
            refine⟨.ptr i (Nat.add o' (Nat.mul a es)),?_,?_⟩
            · show iaR es g q f L k=_
              rw[show iaR es g q f L k=_ from h2,h4,h6,h8]
            · rw[ho]
              simp only[opPure]
              rw[← hg,← hq,h1,h3]
              simp only[indexAtA,ht,hs,h7,cond_true]
              rfl
def iaC {t:TypeId}{x ix:Operand}(ho:o.op=.indexAddr t x ix):PureC P S E o:=
  match ht:P.underlying t with
  | some (.slice e) => match hs : szOf P e with
    | some es=>GetC.rec (motive:=fun _=>PureC P S E o) (fun g hg=>GetC.rec (motive:=fun _=>PureC P S E o) (fun q hq=>⟨iaR es g q,ia_pok ho ht hs hg hq⟩) (getC S E ix)) (getC S E x)
    | none=>slowPC P S E o
  | _=>slowPC P S E o
theorem ex_pok{x:Operand}{i:Nat}(ho:o.op=.extract x i){g:F2→LS→AV}(hg:∀ f L,g f L=valQ S E f L x){r:List AV→(AV→RR)→RR}(hr:∀ l f,r l f=nthR i l f):PureOk P S E o (exR r g):=
  fun f L k h => by
      obtain⟨l,h1,h2⟩:=tupV_ok h
      have h:(r l k).isOk:=by rw[← h2];exact h
      rw[hr] at h
      obtain⟨v,h3,h4⟩:=nthR_ok i l k h
      refine⟨v,?_,?_⟩
      · show exR r g f L k=_
        rw[show exR r g f L k=_ from h2,hr,h4]
      · rw[ho]
        simp only[opPure]
        rw[← hg,h1]
        exact h3
def exC {x:Operand}{i:Nat}(ho:o.op=.extract x i):PureC P S E o:=
  GetC.rec (motive:=fun _=>PureC P S E o) (fun g hg=>NthC.rec (motive:=fun _=>PureC P S E o) (fun r hr=>⟨exR r g,ex_pok ho hg hr⟩) (nthC i)) (getC S E x)
theorem cv_pok{s d:TypeId}{x:Operand}{q0 q:IntKind}(ho:o.op=.convert s d x)(hs:P.underlying s=some (.int q0))(hd:P.underlying d=some (.int q)){g:F2→LS→AV}(hg:∀ f L,g f L=valQ S E f L x){W:Int→Int}(hW:∀ n,W n=wrapA q n):PureOk P S E o (cvR q W g):=
  fun f L k h=>by
        obtain⟨kk,n,h1,h2⟩:=intV_ok h
        refine⟨_,h2,?_⟩
        rw[ho]
        simp only[opPure]
        rw[← hg,h1]
        simp only[convA,hs,hd]
        rw[hW]
def cvC {s d:TypeId}{x:Operand}(ho:o.op=.convert s d x):PureC P S E o:=
  match hs:P.underlying s,hd:P.underlying d with
  | some (.int q0),some (.int q)=>GetC.rec (motive:=fun _=>PureC P S E o) (fun g hg=>WrapC.rec (motive:=fun _=>PureC P S E o) (fun W hW=>⟨cvR q W g,cv_pok ho hs hd hg hW⟩) (wrapC q)) (getC S E x)
  | _,_=>slowPC P S E o
theorem len_pok{args:Array Operand}{ts:Array TypeId}{t e:TypeId}{x:Operand}(ho:o.op=.call ⟨.builtin .len,args,ts⟩)(h1:ts[0]? = some t)(h2:args[0]? = some x)(ht:P.underlying t=some (.slice e)){g:F2→LS→AV}(hg:∀ f L,g f L=valQ S E f L x):PureOk P S E o (lenR g):=
  fun f L k h=>by
          rcases slV_ok h with⟨h3,h4⟩|⟨i,o',n,c,e',h3,h4⟩
          · refine⟨_,h4,?_⟩
            rw[ho]
            simp only[opPure,h1,h2]
            rw[← hg,h3]
            simp only[lenA,ht]
          · refine⟨_,h4,?_⟩
            rw[ho]
            simp only[opPure,h1,h2]
            rw[← hg,h3]
            simp only[lenA,ht]
theorem lenS_pok{args:Array Operand}{ts:Array TypeId}{t:TypeId}{x:Operand}(ho:o.op=.call ⟨.builtin .len,args,ts⟩)(h1:ts[0]? = some t)(h2:args[0]? = some x)(ht:P.underlying t=some .string){g:F2→LS→AV}(hg:∀ f L,g f L=valQ S E f L x):PureOk P S E o (lenS g):=
  fun f L k h=>by
          obtain⟨n,b,h3,h4⟩:=strV_ok h
          refine⟨_,h4,?_⟩
          rw[ho]
          simp only[opPure,h1,h2]
          rw[← hg,h3]
          simp only[lenA,ht]
def lenC {args:Array Operand}{ts:Array TypeId}(ho:o.op=.call ⟨.builtin .len,args,ts⟩):PureC P S E o:=
  match h1:ts[0]?,h2:args[0]? with
  | some t, some x => match ht : P.underlying t with
    | some (.slice e)=>GetC.rec (motive:=fun _=>PureC P S E o) (fun g hg=>⟨lenR g,len_pok ho h1 h2 ht hg⟩) (getC S E x)
    | some .string=>GetC.rec (motive:=fun _=>PureC P S E o) (fun g hg=>⟨lenS g,lenS_pok ho h1 h2 ht hg⟩) (getC S E x)
    | _=>slowPC P S E o
  | _,_=>slowPC P S E o
theorem pk_pok{c a b:Operand}(ho:o.op=.pick c a b){gc ga gb:F2→LS→AV}(hc:∀ f L,gc f L=valQ S E f L c)(ha:∀ f L,ga f L=valQ S E f L a)(hb:∀ f L,gb f L=valQ S E f L b):PureOk P S E o (pkR gc ga gb):=
  fun f L k h => by
      obtain⟨t,h1,h2⟩:=boolV_ok h
      have h2:pkR gc ga gb f L k=Bool.rec (motive:=fun _=>RR) (k (gb f L)) (k (ga f L)) t:=h2
      cases t with
      | true=>exact⟨ga f L,h2,by rw[ho];simp only[opPure];rw[← hc,h1,← ha]⟩
      | false=>exact⟨gb f L,h2,by rw[ho];simp only[opPure];rw[← hc,h1,← hb]⟩
def pkC {c a b:Operand}(ho:o.op=.pick c a b):PureC P S E o:=
  GetC.rec (motive:=fun _=>PureC P S E o) (fun gc hc=>GetC.rec (motive:=fun _=>PureC P S E o) (fun ga ha=>GetC.rec (motive:=fun _=>PureC P S E o) (fun gb hb=>⟨pkR gc ga gb,pk_pok ho hc ha hb⟩) (getC S E b)) (getC S E a)) (getC S E c)
theorem nc_pok{x:Operand}(ho:o.op=.nilCheck x){g:F2→LS→AV}(hg:∀ f L,g f L=valQ S E f L x){s:F2→LS→(AV→RR)→RR}(hs:PureOk P S E o s):PureOk P S E o (ncZ s g):=
  fun f L k h => by
      rcases ptrZ_ok (v:=g f L) (z:=s f L k) (f:=fun i o=>k (.ptr i o)) with⟨i,off,h1,h2⟩|h1
      · exact⟨_,h2,by rw[ho];simp only[opPure];rw[← hg,h1]⟩
      · have h:(s f L k).isOk:=by rw[← h1];exact h
        obtain⟨v,h2,h3⟩:=hs f L k h
        exact⟨v,by rw[← h2];exact h1,h3⟩
def ncC {x:Operand}(ho:o.op=.nilCheck x):PureC P S E o:=
  GetC.rec (motive:=fun _=>PureC P S E o) (fun g hg=>PureC.rec (motive:=fun _=>PureC P S E o) (fun s hs=>⟨ncZ s g,nc_pok ho hg hs⟩) (slowPC P S E o)) (getC S E x)
theorem not_pok{t:TypeId}{x:Operand}(ho:o.op=.unOp .not t x){g:F2→LS→AV}(hg:∀ f L,g f L=valQ S E f L x):PureOk P S E o (notR g):=
  fun f L k h => by
      obtain⟨b,h1,h2⟩:=boolV_ok h
      refine⟨_,h2,?_⟩
      rw[ho]
      simp only[opPure]
      rw[← hg,h1]
      cases b<;>rfl
def notC {t:TypeId}{x:Operand}(ho:o.op=.unOp .not t x):PureC P S E o:=GetC.rec (motive:=fun _=>PureC P S E o) (fun g hg=>⟨notR g,not_pok ho hg⟩) (getC S E x)
def binC {op:BinOp}{t:TypeId}{x y:Operand}{ty:TypeId}(ho:o.op=.binOp op t x y ty):PureC P S E o:=
  match isIntT P t with
  | true=>⟨int2P (intC P op t x y).run (getC S E x).run (getC S E y).run,int2P_ok ho (getC S E x) (getC S E y) (intC P op t x y)⟩
  | false=>slowPC P S E o
end
def pureC(P:Program)(S:Sta)(E:En)(o:Oper):PureC P S E o:=
  match ho:o.op with
  | .move _=>moveC (.inl ho)
  | .assign _=>moveC (.inr ho)
  | .binOp _ _ _ _ _=>binC ho
  | .fieldAddr _ _ _=>faC ho
  | .indexAddr _ _ _=>iaC ho
  | .extract _ _=>exC ho
  | .convert _ _ _=>cvC ho
  | .call ⟨.builtin .len,_,_⟩=>lenC ho
  | .pick _ _ _=>pkC ho
  | .nilCheck _=>ncC ho
  | .unOp .not _ _=>notC ho
  | _=>slowPC P S E o
end
end Go.Ev
