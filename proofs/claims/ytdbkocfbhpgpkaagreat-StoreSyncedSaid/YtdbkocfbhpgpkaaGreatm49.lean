/-
  A quicker evaluator: regions that draw their order, compiled, where one operation at most is a call or a write.
-/
import Derived.Test.YtdbkocfbhpgpkaaGreatm48
set_option linter.unusedVariables false
set_option linter.unusedSimpArgs false
namespace Go.Ev
open Go
noncomputable section
def valF (S:Sta)(f:F2)(t:Nat):AV:=bif Nat.testBit S.X t then .top else bif Nat.blt t S.lim then f.at t else .top
def treeQ(S:Sta)(f:F2):Nat→Nat→Nat→T AV
  | 0,p,_=>.leaf (valF S f p)
  | d+1,p,s=>.node (treeQ S f d p (2 * s)) (treeQ S f d (p+s) (2 * s))
theorem treeQ_ok(S:Sta)(f:F2):∀ d p s,T.Ok d (treeQ S f d p s)
  | 0,_,_=>trivial
  | d+1,p,s=>⟨treeQ_ok S f d _ _,treeQ_ok S f d _ _⟩
theorem treeQ_get(S:Sta)(f:F2):∀ d p s i,i<2 ^ d→(treeQ S f d p s).get i=valF S f (p+s * i)
  | 0, p, s, i, h => by
    have:i=0:=by simpa using h
    subst this
    simp[treeQ,T.get_leaf]
  | d + 1, p, s, i, h => by
    have hd:i / 2<2 ^ d:=by rw[Nat.pow_succ] at h;omega
    simp only[treeQ,T.get_node]
    by_cases h2:i % 2=0
    · rw[T.beq0' h2]
      simp only[cond_true]
      rw[treeQ_get S f d p (2 * s) (i / 2) hd]
      congr 1
      have:i=2 * (i / 2):=by omega
      rw[Nat.mul_assoc,Nat.mul_left_comm 2 s]
      rw[← this]
    · rw[T.beq0 h2]
      simp only[cond_false]
      rw[treeQ_get S f d (p+s) (2 * s) (i / 2) hd]
      congr 1
      have:i=2 * (i / 2)+1:=by omega
      have e:s * i=s * (2 * (i / 2))+s:=by
        conv=>lhs;rw[this,Nat.mul_add,Nat.mul_one]
      rw[e,Nat.mul_assoc,Nat.mul_left_comm 2 s]
      omega
def f0of (t:T AV)(a b:Nat):F0:=⟨t.get (64 * a+8 * b),t.get (64 * a+8 * b+1),t.get (64 * a+8 * b+2),t.get (64 * a+8 * b+3),t.get (64 * a+8 * b+4),t.get (64 * a+8 * b+5),t.get (64 * a+8 * b+6),t.get (64 * a+8 * b+7)⟩
def f1of (t:T AV)(a:Nat):F1:=⟨f0of t a 0,f0of t a 1,f0of t a 2,f0of t a 3,f0of t a 4,f0of t a 5,f0of t a 6,f0of t a 7⟩
def f2of (t:T AV):F2:=⟨f1of t 0,f1of t 1,f1of t 2,f1of t 3,f1of t 4,f1of t 5,f1of t 6,f1of t 7⟩
theorem f0of_get(t:T AV)(a b c:Nat)(h:c<8):(f0of t a b).get c=t.get (64 * a+8 * b+c):=by
  have:c=0∨c=1∨c=2∨c=3∨c=4∨c=5∨c=6∨c=7:=by omega
  rcases this with rfl|rfl|rfl|rfl|rfl|rfl|rfl|rfl<;>rfl
theorem f1of_get(t:T AV)(a b:Nat)(h:b<8):(f1of t a).get b=f0of t a b:=by
  have:b=0∨b=1∨b=2∨b=3∨b=4∨b=5∨b=6∨b=7:=by omega
  rcases this with rfl|rfl|rfl|rfl|rfl|rfl|rfl|rfl<;>rfl
theorem f2of_get(t:T AV)(a:Nat)(h:a<8):(f2of t).get a=f1of t a:=by
  have:a=0∨a=1∨a=2∨a=3∨a=4∨a=5∨a=6∨a=7:=by omega
  rcases this with rfl|rfl|rfl|rfl|rfl|rfl|rfl|rfl<;>rfl
theorem f2of_at(t:T AV)(i:Nat)(h:i<512):(f2of t).at i=t.get i:=by
  unfold F2.at
  rw[f2of_get _ _ (Nat.mod_lt _ (by omega)),f1of_get _ _ _ (Nat.mod_lt _ (by omega)),f0of_get _ _ _ _ (Nat.mod_lt _ (by omega))]
  congr 1
  omega
def frQ (S:Sta)(f:F2):Fr:=⟨S.lim,9,treeQ S f 9 0 1,[]⟩
theorem frQ_FR{S:Sta}{ρ:Ren}{f:F2}{tmps:Array Value}(h:QF S.lim S.X ρ f tmps):FR ρ (frQ S f) tmps:=by
  refine⟨treeQ_ok _ _ _ _ _,h.le,h.size,?_⟩
  intro i hi
  have hi':i<S.lim:=hi
  have:=h.le
  show VR ρ ((treeQ S f 9 0 1).get i) _
  rw[treeQ_get S f 9 0 1 i (by omega)]
  simp only[valF,Nat.zero_add,Nat.one_mul]
  cases hx:Nat.testBit S.X i with
  | true=>exact .top _
  | false =>
    rw[blt_iff.2 hi']
    exact h.val i hi' hx
def lookMask:List Nat→Nat
  | []=>0
  | t::l=>2 ^ t ||| lookMask l
theorem lookMask_bit(t:Nat):∀ l,(lookMask l).testBit t=memT t l
  | []=>by simp[lookMask,memT]
  | x :: l => by
    rw[lookMask,Nat.testBit_or,Nat.testBit_two_pow,lookMask_bit t l,memT]
    by_cases h:x=t
    · subst h
      have:Nat.beq x x=true:=beq_iff.2 rfl
      simp[this]
    · have:Nat.beq t x=false:=by
        cases hb:Nat.beq t x with
        | false=>rfl
        | true=>exact absurd (beq_iff.1 hb).symm h
      simp[h,this]
def Sta.only(S:Sta)(looks:List Nat):Sta:=⟨S.G,S.lim,S.X ||| ((2 ^ S.lim-1) ^^^ ((2 ^ S.lim-1) &&& lookMask looks))⟩
def onlyE(looks:List Nat):En→En
  | []=>[]
  | some t::E=>(bif memT t looks then some t else none)::onlyE looks E
  | none::E=>none::onlyE looks E
theorem findE_only{t:Nat}{looks:List Nat}:∀ {E:En} {k:Nat},findE t (onlyE looks E) k=bif memT t looks then findE t E k else none
  | [],k=>by simp[onlyE,findE]
  | none::E,k=>by simp only[onlyE,findE];exact findE_only
  | some u :: E, k => by
    simp only[onlyE]
    cases hm:memT u looks with
    | true =>
      simp only[cond_true,findE]
      cases hb:Nat.beq u t with
      | true =>
        have:=beq_iff.1 hb
        subst this
        simp[hm]
      | false=>simp only[cond_false];exact findE_only
    | false =>
      simp only[cond_false,findE]
      cases hb:Nat.beq u t with
      | true =>
        have:=beq_iff.1 hb
        subst this
        rw[findE_only,hm];rfl
      | false=>simp only[cond_false];exact findE_only
theorem only_bit(S:Sta)(looks:List Nat)(t:Nat):(S.only looks).X.testBit t=(S.X.testBit t || (decide (t<S.lim) && !memT t looks)):=by
  simp only[Sta.only,Nat.testBit_or,Nat.testBit_xor,Nat.testBit_and,Nat.testBit_two_pow_sub_one,lookMask_bit]
  cases decide (t<S.lim)<;>cases memT t looks<;>simp
theorem valQ_only(S:Sta)(E:En)(f:F2)(L:LS)(looks:List Nat)(t:Nat) :
    valQ (S.only looks) (onlyE looks E) f L (.tmp t)=bif memT t looks then valQ S E f L (.tmp t) else .top:=by
  simp only[valQ,findE_only]
  cases hm:memT t looks with
  | true =>
    have hx:(S.only looks).X.testBit t=S.X.testBit t:=by rw[only_bit,hm];simp
    simp only[cond_true,hx]
    rfl
  | false =>
    have hx:(S.only looks).X.testBit t=(S.X.testBit t || decide (t<S.lim)):=by rw[only_bit,hm];simp
    simp only[cond_false,hx]
    by_cases h:t<S.lim
    · simp[h]
    · have:Nat.blt t (S.only looks).lim=false:=by
        cases hb:Nat.blt t (S.only looks).lim with
        | false=>rfl
        | true=>exact absurd (blt_iff.1 hb) h
      rw[this]
      simp[h]
structure Sim(S:Sta)(E:En)(f:F2)(L:LS)(s:Fr):Prop where
  lim:s.lim=S.lim
  small:S.lim≤512
  ok:T.Ok s.d s.t
  le:s.lim≤2 ^ s.d
  val:∀ t,s.get t=valQ S E f L (.tmp t)
  onX:∀ (k:Nat) (t:Tmp),E[k]? = some (some t)→S.X.testBit t=true
theorem Sim.valR{S:Sta}{E:En}{f:F2}{L:LS}{s:Fr}(h:Sim S E f L s)(looks:List Nat):Go.Ev.valR S.G looks s=valQ (S.only looks) (onlyE looks E) f L:=by
  funext x
  cases x with
  | tmp t =>
    rw[valQ_only]
    simp only[Go.Ev.valR]
    rw[h.val]
  | const v=>rfl
  | func f=>rfl
  | global g=>rfl
theorem findE_shift{t:Nat}:∀ {E:En} {k:Nat},findE t E (k+1)=(findE t E k).map (·+1)
  | [],k=>rfl
  | none::E,k=>by simp only[findE];exact findE_shift
  | some u :: E, k => by
    simp only[findE]
    cases Nat.beq u t with
    | true=>rfl
    | false=>simp only[cond_false];exact findE_shift
theorem findE_kill{t d:Nat}(h:t≠d):∀ {E:En} {k:Nat},findE t (killE d E) k=findE t E k
  | [],k=>rfl
  | none::E,k=>by simp only[killE,findE];exact findE_kill h
  | some u :: E, k => by
    simp only[killE,findE]
    cases hb:Nat.beq u d with
    | true =>
      have:=beq_iff.1 hb
      subst this
      have h2:Nat.beq u t=false:=by
        cases hb:Nat.beq u t with
        | false=>rfl
        | true=>exact absurd (beq_iff.1 hb).symm h
      simp only[cond_true,findE,h2,cond_false]
      exact findE_kill h
    | false =>
      simp only[cond_false,findE]
      rw[findE_kill h]
theorem findE_killed{d:Nat}:∀ {E:En} {k:Nat},findE d (killE d E) k=none
  | [],k=>rfl
  | none::E,k=>by simp only[killE,findE];exact findE_killed
  | some u :: E, k => by
    simp only[killE]
    cases hb:Nat.beq u d with
    | true=>simp only[cond_true,findE];exact findE_killed
    | false=>simp only[cond_false,findE,hb];exact findE_killed
theorem Sim.get_ge{S:Sta}{E:En}{f:F2}{L:LS}{s:Fr}(h:Sim S E f L s){t:Nat}(ht:¬t<S.lim)(s':Fr)(hl:s'.lim=S.lim):s'.get t=s.get t:=by
  have:Nat.blt t S.lim=false:=by
    cases hb:Nat.blt t S.lim with
    | false=>rfl
    | true=>exact absurd (blt_iff.1 hb) ht
  rw[Fr.get_eq,Fr.get_eq,hl,h.lim,this];rfl
theorem Sim.stack{S:Sta}{E:En}{f:F2}{L:LS}{s:Fr}(h:Sim S E f L s){d:Nat}(hd:d<S.lim)(hx:S.X.testBit d=true)(v:AV) :
    ∃ s',s.put (some d) v=some s'∧Sim S (some d::killE d E) f (.cons v L) s':=by
  have hb:Nat.blt d s.lim=true:=blt_iff.2 (by rw[h.lim];exact hd)
  have hp:s.put (some d) v=some ⟨s.lim,s.d,s.t.set d v,s.ds⟩:=by rw[Fr.put_some,hb];rfl
  obtain⟨h1,h2,h3,_,h5⟩:=Fr.put_get hp h.ok h.le
  refine⟨_,hp,h1.trans h.lim,h.small,h3,h.le,?_,?_⟩
  · intro t
    by_cases ht:t<S.lim
    · rw[h5 t (by rw[h.lim];exact ht)]
      by_cases e:d=t
      · subst e
        rw[if_pos rfl]
        have:Nat.beq d d=true:=beq_iff.2 rfl
        simp only[valQ,findE,this,cond_true];rfl
      · rw[if_neg (by simpa using e),h.val]
        have:Nat.beq d t=false:=by
          cases hb:Nat.beq d t with
          | false=>rfl
          | true=>exact absurd (beq_iff.1 hb) e
        simp only[valQ,findE,this,cond_false,Nat.zero_add]
        rw[show(1:Nat)=0+1 from rfl,findE_shift,findE_kill (Ne.symm e)]
        cases findE t E 0<;>rfl
    · rw[h.get_ge ht _ (h1.trans h.lim),h.val]
      have hne:d≠t:=by rintro rfl;exact ht hd
      have:Nat.beq d t=false:=by
        cases hb:Nat.beq d t with
        | false=>rfl
        | true=>exact absurd (beq_iff.1 hb) hne
      simp only[valQ,findE,this,cond_false,Nat.zero_add]
      rw[show(1:Nat)=0+1 from rfl,findE_shift,findE_kill (Ne.symm hne)]
      cases findE t E 0<;>rfl
  · intro k t hk
    cases k with
    | zero=>simp at hk;subst hk;exact hx
    | succ k=>simp only[List.getElem?_cons_succ] at hk;exact h.onX k t (killE_get hk).1
theorem Sim.place{S:Sta}{E:En}{f:F2}{L:LS}{s:Fr}(h:Sim S E f L s){d:Nat}(hd:d<S.lim)(hx:S.X.testBit d=false)(v:AV) :
    ∃ s',s.put (some d) v=some s'∧Sim S (killE d E) (f.put d v) L s':=by
  have hb:Nat.blt d s.lim=true:=blt_iff.2 (by rw[h.lim];exact hd)
  have hp:s.put (some d) v=some ⟨s.lim,s.d,s.t.set d v,s.ds⟩:=by rw[Fr.put_some,hb];rfl
  obtain⟨h1,h2,h3,_,h5⟩:=Fr.put_get hp h.ok h.le
  have hs:=h.small
  refine⟨_,hp,h1.trans h.lim,h.small,h3,h.le,?_,fun k t hk=>h.onX k t (killE_get hk).1⟩
  intro t
  by_cases ht:t<S.lim
  · rw[h5 t (by rw[h.lim];exact ht)]
    by_cases e:d=t
    · subst e
      rw[if_pos rfl]
      simp only[valQ,findE_killed,hx,cond_false,blt_iff.2 hd,cond_true]
      rw[F2.at_put_same]
    · rw[if_neg (by simpa using e),h.val]
      simp only[valQ,findE_kill (Ne.symm e)]
      rw[F2.at_put_ne f d t (by omega) (by omega) e]
  · rw[h.get_ge ht _ (h1.trans h.lim),h.val]
    have hne:d≠t:=by rintro rfl;exact ht hd
    have hbt:Nat.blt t S.lim=false:=by
      cases hb:Nat.blt t S.lim with
      | false=>rfl
      | true=>exact absurd (blt_iff.1 hb) ht
    simp only[valQ,findE_kill (Ne.symm hne),hbt,cond_false]
structure ReadC(P:Program)(S:Sta)(E:En)(o:Oper) where
  run:F2→LS→St→(AV→RR)→RR
  ok:∀ f L st k,(run f L st k).isOk→∃ v,run f L st k=k v∧opRead P o.op (valQ S E f L) st=some v
def readS(P:Program)(S:Sta)(E:En)(o:Op)(f:F2)(L:LS)(st:St)(k:AV→RR):RR:=someR (opReadF o P (valQ S E f L) st) k
def loadV(g:F2→LS→AV)(f:F2)(L:LS)(st:St)(k:AV→RR):RR:=ptrV (g f L) (fun i o=>cellO (objO st i) o k)
def readSC(P:Program)(S:Sta)(E:En)(o:Oper):ReadC P S E o:=
  ⟨readS P S E o.op,fun f L st k h=>by
    obtain⟨v,h1,h2⟩:=someR_ok h
    exact⟨v,h2,by rw[← opReadF_eq];exact h1⟩⟩
def readRC(P:Program)(S:Sta)(E:En)(o:Oper):ReadC P S E o:=
  match ho:o.op with
  | .load t x => match ht : aggN P t with
    | some none => match getC S E x with
      | ⟨g, hg⟩ => ⟨loadV g, fun f L st k h => by
        have h:(ptrV (g f L) (fun i o=>cellO (objO st i) o k)).isOk:=h
        obtain⟨i,off,h1,h2⟩:=ptrV_ok h
        rw[h2] at h
        obtain⟨v,h3,h4⟩:=cellO_ok h
        rw[objO_eq] at h3
        refine⟨v,?_,?_⟩
        · show ptrV (g f L) (fun i o=>cellO (objO st i) o k)=k v
          rw[h2,h4]
        · rw[ho]
          simp only[opRead]
          rw[← hg,h1]
          simp only[ht]
          exact h3⟩
    | _=>readSC P S E o
  | _=>readSC P S E o
structure DSim(S:Sta)(hv mh p:Nat)(E:En)(f:F2)(L:LS)(st:St)(s:DS):Prop where
  sim:Sim S E f L s.fr
  st:s.st=st
  pend:s.pend=[]
  softs:s.softs=[]
  hist:∀ x∈s.hist,x.1=hv∧hv<p
  rds:∀ x∈s.rds,x.1<p∧(Nat.testBit mh x.1 || Nat.ble hv x.1)=true
structure DEnd(S:Sta)(f:F2)(st:St)(s:DS):Prop where
  lim:s.fr.lim=S.lim
  small:S.lim≤512
  val:∀ t,t<S.lim→S.X.testBit t=false→s.fr.get t=f.at t
  st:s.st=st
  pend:s.pend=[]
structure DOpsC(P:Program)(S:Sta)(ops:Array Oper)(hv mh:Nat)(l:List Oper)(ms:List Nat)(p:Nat)(E:En) where
  run:Rn
  ok:∀ call f L st f' st',run call f L st=.ok f' st'→∀ lim (s:DS),DSim S hv mh p E f L st s→∃ s',dGo ⟨P,S.G,call,ops,lim⟩ l ms p s=some s'∧DEnd S f' st' s'
def DS.with(s:DS)(fr:Fr):DS:=⟨fr,s.st,s.pend,s.hist,s.rds,s.softs,s.nid⟩
structure DContC(P:Program)(S:Sta)(ops:Array Oper)(hv mh:Nat)(l:List Oper)(ms:List Nat)(p:Nat)(E:En)(dst:Option Tmp) where
  run:AV→Rn
  ok:∀ call v f L st f' st',run v call f L st=.ok f' st'→∀ lim (s:DS),DSim S hv mh p E f L st s →
    ∃ fr',s.fr.put dst v=some fr'∧∃ s',dGo ⟨P,S.G,call,ops,lim⟩ l ms p (s.with fr')=some s'∧DEnd S f' st' s'
section
variable {P:Program}{S:Sta}{ops:Array Oper}{hv mh:Nat}
def dContC(l:List Oper)(ms:List Nat)(p:Nat)(E:En)(dst:Option Tmp)(rest:∀ E,DOpsC P S ops hv mh l ms p E):DContC P S ops hv mh l ms p E dst:=
  match dst with
  | none => match rest E with
    | ⟨r,hr⟩=>⟨contN r,fun call v f L st f' st' h lim s hs=>⟨s.fr,rfl,by
        obtain⟨s',h1,h2⟩:=hr call f L st f' st' h lim s hs
        exact⟨s',h1,h2⟩⟩⟩
  | some d => match hb : Nat.blt d S.lim with
    | false=>⟨contX,fun call v f L st f' st' h=>by cases h⟩
    | true => match hx : Nat.testBit S.X d with
      | true => match rest (some d :: killE d E) with
        | ⟨r,hr⟩=>⟨contL r,fun call v f L st f' st' h lim s hs=>by
            obtain⟨fr',h1,h2⟩:=hs.sim.stack (blt_iff.1 hb) hx v
            obtain⟨s',h3,h4⟩:=hr call f (.cons v L) st f' st' h lim (s.with fr') ⟨h2,hs.st,hs.pend,hs.softs,hs.hist,hs.rds⟩
            exact⟨fr',h1,s',h3,h4⟩⟩
      | false => match putC d, rest (killE d E) with
        | ⟨q,hq⟩,⟨r,hr⟩=>⟨contF q r,fun call v f L st f' st' h lim s hs=>by
            obtain⟨fr',h1,h2⟩:=hs.sim.place (blt_iff.1 hb) hx v
            rw[← hq] at h2
            obtain⟨s',h3,h4⟩:=hr call (q f v) L st f' st' h lim (s.with fr') ⟨h2,hs.st,hs.pend,hs.softs,hs.hist,hs.rds⟩
            exact⟨fr',h1,s',h3,h4⟩⟩
structure DBodyC(P:Program)(S:Sta)(ops:Array Oper)(hv mh:Nat)(o:Oper)(l:List Oper)(m:Nat)(ms:List Nat)(p:Nat)(E:En) where
  run:Rn
  ok:∀ call f L st f' st',run call f L st=.ok f' st'→∀ lim (s:DS),DSim S hv mh p E f L st s →
    ∃ r s1,dCls (clsOf P o.op) ⟨P,S.G,call,ops,lim⟩ p m o s=some (r,s1)∧∃ s',dGo ⟨P,S.G,call,ops,lim⟩ l ms (p+1) s1=some s'∧DEnd S f' st' s'
theorem DSim.next{p:Nat}{E:En}{f:F2}{L:LS}{st:St}{s:DS}(h:DSim S hv mh p E f L st s):DSim S hv mh (p+1) E f L st s:=
  ⟨h.sim,h.st,h.pend,h.softs,fun x hx=>⟨(h.hist x hx).1,Nat.lt_succ_of_lt (h.hist x hx).2⟩,fun x hx=>⟨Nat.lt_succ_of_lt (h.rds x hx).1,(h.rds x hx).2⟩⟩
def dPureB{o:Oper}{l:List Oper}{m:Nat}{ms:List Nat}{p:Nat}{E:En}(h:clsOf P o.op=.pure)(C:DContC P S ops hv mh l ms (p+1) E o.dst):DBodyC P S ops hv mh o l m ms p E:=
  match pureC P (S.only (o.looksAt ops)) (onlyE (o.looksAt ops) E) o,C with
  | ⟨q, hq⟩, ⟨r, hr⟩ => ⟨bodyP q r, fun call f L st f' st' hrun lim s hs => by
    obtain⟨v,h1,h2⟩:=hq f L (fun v=>r v call f L st) (isOk_of hrun)
    have hrun:q f L (fun v=>r v call f L st)=.ok f' st':=hrun
    rw[h1] at hrun
    obtain⟨fr',h3,s',h4,h5⟩:=hr call v f L st f' st' hrun lim s hs.next
    refine⟨v,s.with fr',?_,s',h4,h5⟩
    rw[h]
    obtain⟨sfr,sst,spend,shist,srds,ssofts,snid⟩:=s
    simp only[dCls,dPure]
    rw[hs.sim.valR,opPureF_eq,h2]
    simp only[dFin]
    have h3:sfr.put o.dst v=some fr':=h3
    rw[h3]
    rfl⟩
def readK(q:F2→LS→St→(AV→RR)→RR)(r:AV→Rn)(call:CallF)(f:F2)(L:LS)(st:St):RR:=q f L st (fun v=>r v call f L st)
theorem histOk_all{o:Oper}{fr:Fr}{r:AV}{m:Nat}(h:Nat.testBit m hv=true):∀ (l:List (Nat×St)),(∀ x∈l,x.1=hv)→histOk P S.G ops o fr r m l=true
  | [],_=>rfl
  | (q, st) :: l, hl => by
    have:q=hv:=hl (q,st) List.mem_cons_self
    subst this
    simp only[histOk,h,cond_true]
theorem rdsOk_all{m:Nat}{st:St}:∀ (l:List (Nat×Oper×Fr×AV)),(∀ x∈l,Nat.testBit m x.1=true)→rdsOk P S.G ops m st l=true
  | [],_=>rfl
  | (q, o, fr, r) :: l, hl => by
    have:Nat.testBit m q=true:=hl (q,o,fr,r) List.mem_cons_self
    simp only[rdsOk,this,cond_true,Bool.true_and]
    exact rdsOk_all l (fun x hx=>hl x (List.mem_cons_of_mem _ hx))
def dNone{o:Oper}{l:List Oper}{m:Nat}{ms:List Nat}{p:Nat}{E:En}:DBodyC P S ops hv mh o l m ms p E:=⟨noRn,fun call f L st f' st' h=>by cases h⟩
def dReadB{o:Oper}{l:List Oper}{m:Nat}{ms:List Nat}{p:Nat}{E:En}(h:clsOf P o.op=.read)(C:DContC P S ops hv mh l ms (p+1) E o.dst):DBodyC P S ops hv mh o l m ms p E:=
  match hc:(Nat.testBit mh p || Nat.ble hv p) && (Nat.ble p hv || Nat.testBit m hv) with
  | false=>dNone
  | true => match readRC P (S.only (o.looksAt ops)) (onlyE (o.looksAt ops) E) o, C with
    | ⟨q, hq⟩, ⟨r, hr⟩ => ⟨readK q r, fun call f L st f' st' hrun lim s hs => by
      simp only[Bool.and_eq_true] at hc
      obtain⟨v,h1,h2⟩:=hq f L st (fun v=>r v call f L st) (isOk_of hrun)
      have hrun:q f L st (fun v=>r v call f L st)=.ok f' st':=hrun
      rw[h1] at hrun
      obtain⟨sfr,sst,spend,shist,srds,ssofts,snid⟩:=s
      have hst:=hs.st
      simp only[] at hst
      subst hst
      obtain⟨fr',h3,s',h4,h5⟩:=hr call v f L sst f' st' hrun lim ⟨sfr,sst,spend,shist,(p,o,sfr,v)::srds,ssofts,snid⟩ ⟨hs.sim,rfl,hs.pend,hs.softs,hs.next.hist,fun x hx=>by
        rcases List.mem_cons.1 hx with rfl|hx
        · exact⟨Nat.lt_succ_self _,hc.1⟩
        · exact hs.next.rds x hx⟩
      refine⟨v,_,?_,s',h4,h5⟩
      rw[h]
      simp only[dCls,dRead]
      rw[hs.sim.valR,h2]
      have hhist:histOk P S.G ops o sfr v m shist=true:=by
        cases hb:Nat.testBit m hv with
        | true=>exact histOk_all hb shist (fun x hx=>(hs.hist x hx).1)
        | false =>
          have hp:p≤hv:=by
            have:=hc.2
            rw[hb,Bool.or_false] at this
            exact ble_iff.1 this
          cases shist with
          | nil=>rfl
          | cons x l=>exact absurd (hs.hist x List.mem_cons_self).2 (by omega)
      simp only[hhist,cond_true,dFin]
      rw[h3];rfl⟩
def dHeavyR(P:Program)(S:Sta)(E:En)(o:Op)(r:AV→Rn)(call:CallF)(f:F2)(L:LS)(st:St):RR:=
  pairR (opHeavy P call o (valQ S E f L) st) (fun v st'=>r v call f L st')
def dHeavyB{o:Oper}{l:List Oper}{m:Nat}{ms:List Nat}{p:Nat}{E:En}(h:clsOf P o.op=.heavy)(C:DContC P S ops hv mh l ms (p+1) E o.dst):DBodyC P S ops hv mh o l m ms p E:=
  match hc:Nat.beq p hv && Nat.beq m mh with
  | false=>dNone
  | true => match C with
    | ⟨r, hr⟩ => ⟨dHeavyR P (S.only (o.looksAt ops)) (onlyE (o.looksAt ops) E) o.op r, fun call f L st f' st' hrun lim s hs => by
      simp only[Bool.and_eq_true] at hc
      have e1:=beq_iff.1 hc.1
      have e2:=beq_iff.1 hc.2
      subst e1;subst e2
      obtain⟨v,st1,h2,h1⟩:=pairR_ok (isOk_of hrun)
      have hrun2:pairR (opHeavy P call o.op (valQ (S.only (o.looksAt ops)) (onlyE (o.looksAt ops) E) f L) st) (fun v st'=>r v call f L st')=.ok f' st':=hrun
      rw[h1] at hrun2
      clear hrun h1
      obtain⟨sfr,sst,spend,shist,srds,ssofts,snid⟩:=s
      have hst:=hs.st
      have hpe:=hs.pend
      have hso:=hs.softs
      simp only[] at hst hpe hso
      subst hst;subst hpe;subst hso
      obtain⟨fr',h3,s',h4,h5⟩:=hr call v f L st1 f' st' hrun2 lim ⟨sfr,st1,[],(p,sst)::shist,srds,[],snid⟩ ⟨hs.sim,rfl,rfl,rfl,fun x hx=>by
        rcases List.mem_cons.1 hx with rfl|hx
        · exact⟨rfl,Nat.lt_succ_self _⟩
        · exact hs.next.hist x hx,hs.next.rds⟩
      refine⟨v,_,?_,s',h4,h5⟩
      rw[h]
      simp only[dCls,dHeavy,softsOk,List.all_nil,cond_true,matSt]
      rw[hs.sim.valR,h2]
      have hrds:rdsOk P S.G ops m st1 srds=true:=rdsOk_all srds (fun x hx=>by
        obtain⟨q1,q2⟩:=hs.rds x hx
        cases hb:Nat.testBit m x.1 with
        | true=>rfl
        | false =>
          rw[hb,Bool.false_or] at q2
          have:=ble_iff.1 q2
          omega)
      simp only[hrds,cond_true,restP,dFin]
      rw[h3];rfl⟩
def dBodyC{o:Oper}{l:List Oper}{m:Nat}{ms:List Nat}{p:Nat}{E:En}(C:DContC P S ops hv mh l ms (p+1) E o.dst):DBodyC P S ops hv mh o l m ms p E:=
  match h:clsOf P o.op with
  | .pure=>dPureB h C
  | .read=>dReadB h C
  | .heavy=>dHeavyB h C
  | _=>dNone
def dStepC(o:Oper)(l:List Oper)(m:Nat)(ms:List Nat)(p:Nat)(E:En)(C:DContC P S ops hv mh l ms (p+1) E o.dst):DOpsC P S ops hv mh (o::l) (m::ms) p E:=
  match hgd:o.guard with
  | none => match dBodyC (m := m) C with
    | ⟨b, hb⟩ => ⟨b, fun call f L st f' st' hrun lim s hs => by
      obtain⟨r,s1,h1,s',h2,h3⟩:=hb call f L st f' st' hrun lim s hs
      refine⟨s',?_,h3⟩
      show thenD (dGo _ l ms (p+1)) (dStep _ p m o s)=some s'
      have hw:wantedA ops s.frA o=some true:=by simp only[wantedA,hgd]
      simp only[dStep,hw,h1,thenD]
      exact h2⟩
  | some (j, want) => match hd : (ops[j]?).bind (·.dst) with
    | none=>⟨noRn,fun call f L st f' st' hrun=>by cases hrun⟩
    | some t => match getC S E (.tmp t), dBodyC (m := m) C, C, guardC want with
      | ⟨g, hgt⟩, ⟨b, hb⟩, ⟨r, hr⟩, ⟨q, hq⟩ => ⟨guardG q g b r, fun call f L st f' st' hrun lim s hs => by
        have hval:=hs.sim.val t
        rw[← hgt] at hval
        have hfr:s.frA=s.fr:=rfl
        have hrun:guardK want (g f L) (b call f L st) (r undefA call f L st)=.ok f' st':=by rw[← hq];exact hrun
        have hskip:wantedA ops s.frA o=some false→r undefA call f L st=.ok f' st'→∃ s',dGo ⟨P,S.G,call,ops,lim⟩ (o::l) (m::ms) p s=some s'∧DEnd S f' st' s':=by
          intro hw hrun
          obtain⟨fr',h3,s',h4,h5⟩:=hr call undefA f L st f' st' hrun lim s hs.next
          refine⟨s',?_,h5⟩
          show thenD (dGo _ l ms (p+1)) (dStep _ p m o s)=some s'
          obtain⟨sfr,sst,spend,shist,srds,ssofts,snid⟩:=s
          simp only[dStep,hw,dSkip,dFin]
          have h3:sfr.put o.dst undefA=some fr':=h3
          rw[h3]
          exact h4
        unfold guardK at hrun
        split at hrun
        · rename_i bb hgv
          rw[hgv] at hval
          have hw:wantedA ops s.frA o=some (bb==want):=by simp only[wantedA,hgd,hd,hfr,hval]
          cases hbw:(bb==want) with
          | true =>
            rw[hbw] at hrun hw
            obtain⟨v,s1,h1,s',h2,h3⟩:=hb call f L st f' st' hrun lim s hs
            refine⟨s',?_,h3⟩
            show thenD (dGo _ l ms (p+1)) (dStep _ p m o s)=some s'
            simp only[dStep,hw,h1,thenD]
            exact h2
          | false =>
            rw[hbw] at hrun hw
            exact hskip hw hrun
        · rename_i ll hgv
          rw[hgv] at hval
          exact hskip (by simp only[wantedA,hgd,hd,hfr,hval]) hrun
        · cases hrun⟩
def dListC(P:Program)(S:Sta)(ops:Array Oper)(hv mh:Nat):(l:List Oper)→(ms:List Nat)→(p:Nat)→(E:En)→DOpsC P S ops hv mh l ms p E
  | [],ms,p,E=>⟨endRn,fun call f L st f' st' hrun lim s hs=>by
      cases hrun
      refine⟨s,rfl,hs.sim.lim,hs.sim.small,?_,hs.st,hs.pend⟩
      intro t ht hx
      rw[hs.sim.val]
      have hn:findE t E 0=none:=by
        cases hf:findE t E 0 with
        | none=>rfl
        | some k =>
          obtain⟨_,h2⟩:=findE_spec hf
          have:=hs.sim.onX _ _ h2
          rw[hx] at this;cases this
      simp only[valQ,hn,hx,cond_false,blt_iff.2 ht,cond_true]⟩
  | _::_,[],_,_=>⟨noRn,fun call f L st f' st' hrun=>by cases hrun⟩
  | o::l,m::ms,p,E=>dStepC o l m ms p E (dContC l ms (p+1) E o.dst (dListC P S ops hv mh l ms (p+1)))
def dFits(P:Program)(hv mh:Nat):List Oper→List Nat→Nat→Bool
  | [],_,_=>true
  | _::_,[],_=>false
  | o::l,m::ms,p=>(match clsOf P o.op with
      | .pure=>true
      | .read=>(Nat.testBit mh p || Nat.ble hv p) && (Nat.ble p hv || Nat.testBit m hv)
      | .heavy=>Nat.beq p hv && Nat.beq m mh
      | _=>false) && dFits P hv mh l ms (p+1)
def heavyAt(P:Program):List Oper→Nat→Nat
  | [],p=>p
  | o :: l, p => match clsOf P o.op with
    | .heavy=>p
    | _=>heavyAt P l (p+1)
theorem frQ_Sim{f:F2}(h:S.lim≤512):Sim S [] f .nil (frQ S f):=by
  refine⟨rfl,h,treeQ_ok _ _ _ _ _,h,?_,fun k t hk=>by simp at hk⟩
  intro t
  show(bif Nat.blt t S.lim then(treeQ S f 9 0 1).get t else .top)=_
  cases hb:Nat.blt t S.lim with
  | false=>simp only[cond_false,valQ,findE,hb,Bool.cond_self]
  | true =>
    have:=blt_iff.1 hb
    simp only[cond_true]
    rw[treeQ_get S f 9 0 1 t (by omega)]
    simp only[valF,Nat.zero_add,Nat.one_mul,valQ,findE]
structure DrawC(P:Program)(S:Sta)(ops:Array Oper) where
  run:CallF→F2→St→RR
  ok:∀ call f hp d nx f' st',run call f ⟨hp,d,nx⟩=.ok f' st'→S.lim≤512 →
    ∃ s',dGo ⟨P,S.G,call,ops,nx+0⟩ ops.toList (ancsOf ops) 0 ⟨frQ S f,⟨hp,d,nx+0⟩,[],[],[],[],nx⟩=some s'∧DEnd S f' st' s'
def draw1R(r:Rn)(call:CallF)(f:F2)(st:St):RR:=r call f .nil st
def draw1C(P:Program)(S:Sta)(ops:Array Oper)(hv mh:Nat):DrawC P S ops:=
  match dListC P S ops hv mh ops.toList (ancsOf ops) 0 [] with
  | ⟨r, hr⟩ => ⟨draw1R r, fun call f hp d nx f' st' hrun hlim =>
    hr call f .nil ⟨hp,d,nx⟩ f' st' hrun (nx+0) ⟨frQ S f,⟨hp,d,nx+0⟩,[],[],[],[],nx⟩ ⟨frQ_Sim hlim,rfl,rfl,rfl,fun x hx=>by simp at hx,fun x hx=>by simp at hx⟩⟩
end
inductive Inf where
  | mk (tm db:Nat) (h:Bool)
def dstBit:Option Tmp→Nat
  | none=>0
  | some t=>2 ^ t
def infOf(P:Program)(ops:Array Oper)(o:Oper):Inf:=⟨lookMask (touch ops o),dstBit o.dst,hvy P o⟩
def clash2(tm db:Nat)(h:Bool)(tm' db':Nat)(h':Bool):Bool:=
  Bool.rec (motive:=fun _=>Bool) true (Bool.rec (motive:=fun _=>Bool) false h' h) (Nat.beq (Nat.lor (Nat.land tm db') (Nat.land tm' db)) 0)
def Inf.clash(x:Inf)(tm db:Nat)(h:Bool):Bool:=Inf.rec (motive:=fun _=>Bool) (fun tm' db' h'=>clash2 tm db h tm' db' h') x
def okStep(c b n:Bool):Bool:=Bool.rec (motive:=fun _=>Bool) n (Bool.rec (motive:=fun _=>Bool) false n b) c
def okOneM(mask p tm db:Nat)(h:Bool)(l:List Inf):Nat→Bool:=
  List.rec (motive:=fun _=>Nat→Bool) (fun _=>true) (fun x _ ih k=>Bool.rec (motive:=fun _=>Bool) (okStep (x.clash tm db h) (Nat.testBit mask k) (ih (Nat.succ k))) true (Nat.beq k p)) l
theorem okOneM_spec{mask p tm db:Nat}{h:Bool}:∀ (l:List Inf) (k:Nat),okOneM mask p tm db h l k=true→∀ j x,l[j]? = some x→k+j<p→x.clash tm db h=true→mask.testBit (k+j)=true
  | [],_,_,j,x,hj,_,_=>by simp at hj
  | y :: l, k, hk, j, x, hj, hlt, hc => by
    have hk:Bool.rec (motive:=fun _=>Bool) (okStep (y.clash tm db h) (Nat.testBit mask k) (okOneM mask p tm db h l (k+1))) true (Nat.beq k p)=true:=hk
    have hne:Nat.beq k p=false:=by
      cases hb:Nat.beq k p with
      | false=>rfl
      | true=>have:=beq_iff.1 hb;omega
    rw[hne] at hk
    have hk:okStep (y.clash tm db h) (Nat.testBit mask k) (okOneM mask p tm db h l (k+1))=true:=hk
    unfold okStep at hk
    have hrest:okOneM mask p tm db h l (k+1)=true:=by
      cases h1:y.clash tm db h<;>rw[h1] at hk
      · exact hk
      · cases h2:Nat.testBit mask k<;>rw[h2] at hk
        · cases hk
        · exact hk
    cases j with
    | zero =>
      simp only[List.getElem?_cons_zero,Option.some.injEq] at hj
      subst hj
      rw[hc] at hk
      cases h2:Nat.testBit mask k with
      | true=>simp
      | false=>rw[h2] at hk;cases hk
    | succ j =>
      simp only[List.getElem?_cons_succ] at hj
      have:=okOneM_spec l (k+1) hrest j x hj (by omega) hc
      rwa[show k+1+j=k+(j+1) by omega] at this
def edgesOk(o:Oper)(p:Nat):Bool:=o.after.toList.all (fun e=>!Region.binds .any e || Nat.blt e.on p)
def infK (m p:Nat)(infs:List Inf)(x:Inf):Bool:=Inf.rec (motive:=fun _=>Bool) (fun tm db h=>okOneM m p tm db h infs 0) x
def staticG(P:Program)(ops:Array Oper)(infs:List Inf):List Oper→List Nat→Nat→Bool
  | [],_,_=>true
  | o :: l, ms, p => match ms with
    | m::ms=>(edgesOk o p && infK m p infs (infOf P ops o)) && staticG P ops infs l ms (p+1)
    | []=>false
theorem staticG_spec{P:Program}{ops:Array Oper}{infs:List Inf}:∀ (l:List Oper) (ms:List Nat) (p:Nat),staticG P ops infs l ms p=true→∀ k o,l[k]? = some o →
    edgesOk o (p+k)=true∧infK (ms.getD k 0) (p+k) infs (infOf P ops o)=true
  | [],_,_,_,k,o,hk=>by simp at hk
  | x::l,[],_,h,_,_,_=>by simp[staticG] at h
  | x :: l, m :: ms, p, h, k, o, hk => by
    simp only[staticG,Bool.and_eq_true] at h
    cases k with
    | zero =>
      simp only[List.getElem?_cons_zero,Option.some.injEq] at hk
      subst hk
      exact⟨h.1.1,h.1.2⟩
    | succ k =>
      simp only[List.getElem?_cons_succ] at hk
      have:=staticG_spec l ms (p+1) h.2 k o hk
      rw[show p+1+k=p+(k+1) by omega] at this
      exact this
theorem land_ne{m t:Nat}(h:m.testBit t=true):Nat.land m (2 ^ t)≠0:=by
  intro e
  have h2:(m &&& 2 ^ t).testBit t=true:=by rw[Nat.testBit_and,h,Nat.testBit_two_pow];simp
  have e':m &&& 2 ^ t=0:=e
  rw[e'] at h2
  simp at h2
theorem clash_of{P:Program}{ops:Array Oper}{a b:Oper}(h:conflictD P ops a b=true) :
    (infOf P ops a).clash (lookMask (touch ops b)) (dstBit b.dst) (hvy P b)=true:=by
  show clash2 (lookMask (touch ops b)) (dstBit b.dst) (hvy P b) (lookMask (touch ops a)) (dstBit a.dst) (hvy P a)=true
  have hz:(∃ t,(a.dst=some t∧memT t (touch ops b)=true)∨(b.dst=some t∧memT t (touch ops a)=true))→Nat.beq (Nat.lor (Nat.land (lookMask (touch ops b)) (dstBit a.dst)) (Nat.land (lookMask (touch ops a)) (dstBit b.dst))) 0=false:=by
    rintro⟨t,h|h⟩
    · cases hb:Nat.beq (Nat.lor (Nat.land (lookMask (touch ops b)) (dstBit a.dst)) (Nat.land (lookMask (touch ops a)) (dstBit b.dst))) 0 with
      | false=>rfl
      | true =>
        have e:=beq_iff.1 hb
        have e:(lookMask (touch ops b) &&& dstBit a.dst) ||| (lookMask (touch ops a) &&& dstBit b.dst)=0:=e
        rw[Nat.or_eq_zero_iff] at e
        have:=e.1
        rw[h.1] at this
        exact absurd this (land_ne (by rw[lookMask_bit];exact h.2))
    · cases hb:Nat.beq (Nat.lor (Nat.land (lookMask (touch ops b)) (dstBit a.dst)) (Nat.land (lookMask (touch ops a)) (dstBit b.dst))) 0 with
      | false=>rfl
      | true =>
        have e:=beq_iff.1 hb
        have e:(lookMask (touch ops b) &&& dstBit a.dst) ||| (lookMask (touch ops a) &&& dstBit b.dst)=0:=e
        rw[Nat.or_eq_zero_iff] at e
        have:=e.2
        rw[h.1] at this
        exact absurd this (land_ne (by rw[lookMask_bit];exact h.2))
  unfold clash2
  simp only[conflictD,Bool.or_eq_true,Bool.and_eq_true] at h
  rcases h with (h|h)|h
  · cases hd:a.dst with
    | none=>rw[hd] at h;cases h
    | some t =>
      rw[hd] at h
      rw[hd] at hz
      rw[hz ⟨t,.inl ⟨rfl,h⟩⟩]
  · cases hd:b.dst with
    | none=>rw[hd] at h;cases h
    | some t =>
      rw[hd] at h
      rw[hd] at hz
      rw[hz ⟨t,.inr ⟨rfl,h⟩⟩]
  · rw[h.1,h.2]
    cases Nat.beq _ 0<;>rfl
def staticM(P:Program)(ops:Array Oper):Bool:=staticG P ops (ops.toList.map (infOf P ops)) ops.toList (ancsOf ops) 0
theorem staticM_ok{P:Program}{ops:Array Oper}(h:staticM P ops=true):StaticOk P ops (ancsOf ops):=by
  have hs:=staticG_spec ops.toList (ancsOf ops) 0 h
  refine⟨fun p o hp e he hb=>?_,fun p o q oq hp hq hlt hc=>?_⟩
  · have:=(hs p o (by simpa using hp)).1
    unfold edgesOk at this
    have:=List.all_eq_true.1 this e he
    rw[hb] at this
    simp only[Bool.not_true,Bool.false_or,Nat.zero_add] at this
    exact blt_iff.1 this
  · have:=(hs p o (by simpa using hp)).2
    have this:okOneM ((ancsOf ops).getD p 0) (0+p) (lookMask (touch ops o)) (dstBit o.dst) (hvy P o) (ops.toList.map (infOf P ops)) 0=true:=this
    have:=okOneM_spec _ 0 this q (infOf P ops oq) (by simp[hq]) (by omega) (clash_of hc)
    rwa[Nat.zero_add] at this
end
end Go.Ev
