/-
  A quicker evaluator: code, compiled.
-/
import Derived.Test.YtdbkocfbhpgpkaaGreatm49
set_option linter.unusedVariables false
set_option linter.unusedSimpArgs false
namespace Go.Ev
open Go
noncomputable section
inductive RX where
  | no
  | nrm (f:F2) (st:St)
  | ret (f:F2) (st:St)
  | ext (j:Nat) (f:F2) (st:St)
def RX.of:Ex→F2→St→RX
  | .normal,f,st=>.nrm f st
  | .ret,f,st=>.ret f st
  | .exit j,f,st=>.ext j f st
abbrev RunC:=CallF→F2→St→RX
def QPost(S:Sta)(ρ:Ren)(st:St)(w:World)(D:List Deferred)(ex:Ex)(f':F2)(st':St):Exit→Act→World→Prop:=
  fun e a' w'=>e=ex.toExit∧∃ ρ',QF S.lim S.X ρ' f' a'.tmps∧Good ρ st w ρ' st' w'∧a'.defers=D
def CodeOk(P:Program)(S:Sta)(c:Code)(run:RunC):Prop:=
  ∀ call,CallOk P S.G call→∀ f st ex f' st',run call f st=RX.of ex f' st'→∀ ρ (a:Act) w,QF S.lim S.X ρ f a.tmps→Rel ρ st w→Glob ρ S.G→∀ ro:Option Nat,
    c.wpIn (fence ro) 0 P (QPost S ρ st w a.defers ex f' st') a w
structure CodeC(P:Program)(S:Sta)(c:Code) where
  run:RunC
  ok:CodeOk P S c run
theorem RX.of_inj{ex ex':Ex}{f f':F2}{st st':St}(h:RX.of ex f st=RX.of ex' f' st'):ex=ex'∧f=f'∧st=st':=by
  cases ex<;>cases ex' <;> simp_all[RX.of]
theorem RX.of_ne{ex:Ex}{f:F2}{st:St}:RX.no≠RX.of ex f st:=by cases ex<;>simp[RX.of]
def drawK(S:Sta)(r:Option (Fr×St)):RX:=match r with
  | some (⟨n,_,t,_⟩,st)=>Bool.rec (motive:=fun _=>RX) .no (.nrm (f2of t) st) (Nat.beq n S.lim)
  | none=>.no
def evDrawM(P:Program)(G:Nat)(call:CallF)(ops:Array Oper)(n:Nat)(fr:Fr)(st:St):Option (Fr×St):=
  match st with
  | ⟨h,d,nx⟩=>bif Nat.ble (nx+n) (2 ^ d) && deadFrom h nx n then
        drawEnd (dGo ⟨P,G,call,ops,nx+n⟩ ops.toList (ancsOf ops) 0 ⟨fr,⟨h,d,nx+n⟩,[],[],[],[],nx⟩)
      else none
theorem evDrawM_sound{P:Program}{G n:Nat}{call:CallF}(hcall:CallOk P G call)(hmix:P.follows .mixedOrders=true){ops:Array Oper}(hst:StaticOk P ops (ancsOf ops)){id:Nat}{fr fr':Fr}{st st':St}{ρ:Ren}{a:Act}{w:World}
    (h:evDrawM P G call ops n fr st=some (fr',st')) (hF:FR ρ fr a.tmps) (hR:Rel ρ st w) (hG:Glob ρ G) {ro:Option Nat} {Q:Exit→Act→World→Prop}
    (hQ:∀ ρ' a' w',FR ρ' fr' a'.tmps→Good ρ st w ρ' st' w'→a'.defers=a.defers→Q .normal a' w'):(Code.region id ops true).wpIn (fence ro) 0 P Q a w:=by
  obtain⟨hp,d,nx⟩:=st
  simp only[evDrawM] at h
  obtain⟨hc,h⟩:=bif_some h
  simp only[Bool.and_eq_true,ble_iff] at hc
  obtain⟨hle,hdead⟩:=hc
  cases hgo:dGo ⟨P,G,call,ops,nx+n⟩ ops.toList (ancsOf ops) 0 ⟨fr,⟨hp,d,nx+n⟩,[],[],[],[],nx⟩ with
  | none=>rw[hgo] at h;simp[drawEnd] at h
  | some s =>
    rw[hgo] at h
    refine dGo_sound hcall hmix hst hle hdead hgo hF hR hG ?_
    obtain⟨sfr,sst,spend,shist,srds,ssofts,snid⟩:=s
    simp only[drawEnd,Option.some.injEq,Prod.mk.injEq] at h
    obtain⟨rfl,rfl⟩:=h
    exact hQ
def drawR(P:Program)(S:Sta)(ops:Array Oper)(n:Nat)(call:CallF)(f:F2)(st:St):RX:=drawK S (evDrawM P S.G call ops n (frQ S f) st)
def draw1K(r:RR):RX:=RR.rec (motive:=fun _=>RX) .no (fun f' st'=>.nrm f' st') r
def draw1X(r:CallF→F2→St→RR)(call:CallF)(f:F2)(st:St):RX:=draw1K (r call f st)
theorem draw_QF{P:Program}{S:Sta}{hmix:P.follows .mixedOrders=true}{id:Nat}{ops:Array Oper}{call:CallF}(hc:CallOk P S.G call)(hst:StaticOk P ops (ancsOf ops)){f f':F2}{hp:T AO}{d nx:Nat}{st':St}{s:DS}
    (h:dGo ⟨P,S.G,call,ops,nx+0⟩ ops.toList (ancsOf ops) 0 ⟨frQ S f,⟨hp,d,nx+0⟩,[],[],[],[],nx⟩=some s) (he:DEnd S f' st' s)
    {ρ:Ren} {a:Act} {w:World} (hF:QF S.lim S.X ρ f a.tmps) (hR:Rel ρ ⟨hp,d,nx⟩ w) (hG:Glob ρ S.G) (ro:Option Nat) :
    (Code.region id ops true).wpIn (fence ro) 0 P (QPost S ρ ⟨hp,d,nx⟩ w a.defers .normal f' st') a w:=by
  refine dGo_sound hc hmix hst hR.lt rfl h (frQ_FR hF) hR hG (fun ρ' a' w' g1 g2 g3=>⟨rfl,ρ',⟨hF.le,by rw[← he.lim];exact g1.size,fun i hi hx=>?_⟩,?_,g3⟩)
  · have:=g1.get i
    rw[he.val i hi hx] at this
    exact this
  · rw[he.pend] at g2
    have e:allPend s.st []=st':=he.st
    rw[e] at g2
    exact g2
def drawSlow(P:Program)(S:Sta)(hmix:P.follows .mixedOrders=true)(id:Nat)(ops:Array Oper)(hst:StaticOk P ops (ancsOf ops)):CodeC P S (.region id ops true):=
  ⟨drawR P S ops (countA P ops.toList),fun call hc f st ex f' st' h ρ a w hF hR hG ro=>by
      have h:drawK S (evDrawM P S.G call ops (countA P ops.toList) (frQ S f) st)=RX.of ex f' st':=h
      cases h1:evDrawM P S.G call ops (countA P ops.toList) (frQ S f) st with
      | none=>rw[h1] at h;exact absurd h RX.of_ne
      | some p =>
        obtain⟨⟨n,d,t,ds⟩,st1⟩:=p
        rw[h1] at h
        simp only[drawK] at h
        cases hb:Nat.beq n S.lim with
        | false=>rw[hb] at h;exact absurd h RX.of_ne
        | true =>
          rw[hb] at h
          obtain⟨rfl,rfl,rfl⟩:=RX.of_inj (ex:=.normal) h
          have hn:=beq_iff.1 hb
          subst hn
          refine evDrawM_sound hc hmix hst h1 (frQ_FR hF) hR hG (fun ρ' a' w' g1 g2 g3=>⟨rfl,ρ',⟨hF.le,g1.size,fun i hi _=>?_⟩,g2,g3⟩)
          have:=hF.le
          rw[f2of_at t i (by omega)]
          exact g1.val i hi⟩
def drawQuick(P:Program)(S:Sta)(hmix:P.follows .mixedOrders=true)(id:Nat)(ops:Array Oper)(hst:StaticOk P ops (ancsOf ops))(D:DrawC P S ops):CodeC P S (.region id ops true):=
  match D with
  | ⟨r,hr⟩=>⟨draw1X r,fun call hc f st ex f' st' h ρ a w hF hR hG ro=>by
      have h:draw1K (r call f st)=RX.of ex f' st':=h
      obtain⟨hp,d,nx⟩:=st
      cases h1:r call f ⟨hp,d,nx⟩ with
      | no=>rw[h1] at h;exact absurd h RX.of_ne
      | ok f1 st1 =>
        rw[h1] at h
        obtain⟨rfl,rfl,rfl⟩:=RX.of_inj (ex:=.normal) h
        obtain⟨s',e1,e2⟩:=hr call f hp d nx f1 st1 h1 hF.le
        exact draw_QF (hmix:=hmix) hc hst e1 e2 hF hR hG ro⟩
def headMask(P:Program)(ops:Array Oper):Nat:=
  bif Nat.beq (heavyAt P ops.toList 0) ops.size then 2 ^ ops.size-1 else(ancsOf ops).getD (heavyAt P ops.toList 0) 0
def drawC(P:Program)(S:Sta)(hmix:P.follows .mixedOrders=true)(id:Nat)(ops:Array Oper):CodeC P S (.region id ops true):=
  match hT:staticM P ops with
  | true => match dFits P (heavyAt P ops.toList 0) (headMask P ops) ops.toList (ancsOf ops) 0 with
    | true=>drawQuick P S hmix id ops (staticM_ok hT) (draw1C P S ops (heavyAt P ops.toList 0) (headMask P ops))
    | false=>drawSlow P S hmix id ops (staticM_ok hT)
  | false=>⟨fun _ _ _=>.no,fun call hc f st ex f' st' h=>absurd h RX.of_ne⟩
def regR (r:Rn)(call:CallF)(f:F2)(st:St):RX:=RR.rec (motive:=fun _=>RX) .no (fun f' st'=>.nrm f' st') (r call f .nil st)
def RX.thn(r:RX)(k:F2→St→RX):RX:=RX.rec (motive:=fun _=>(F2→St→RX)→RX) (fun _=>.no) (fun f st k=>k f st) (fun f st _=>.ret f st) (fun j f st _=>.ext j f st) r k
def seqR (a b:RunC)(call:CallF)(f:F2)(st:St):RX:=RX.thn (a call f st) (fun f' st'=>b call f' st')
def blockK(id:Nat)(r:RX):RX:=RX.rec (motive:=fun _=>Nat→RX) (fun _=>.no) (fun f st _=>.nrm f st) (fun f st _=>.ret f st) (fun j f st id=>Bool.rec (motive:=fun _=>RX) (.ext j f st) (.nrm f st) (Nat.beq j id)) r id
def blockR(id:Nat)(c:RunC)(call:CallF)(f:F2)(st:St):RX:=blockK id (c call f st)
def boolK(v:AV)(x y:RX):RX:=
  AV.rec (motive_1:=fun _=>RX→RX→RX) (motive_2:=fun _=>Unit)
    (fun _ _=>.no) (fun b x y=>Bool.rec (motive:=fun _=>RX) y x b) (fun _ _ _ _=>.no) (fun _ _ _ _=>.no) (fun _ _=>.no) (fun _ _ _ _=>.no) (fun _ _=>.no)
    (fun _ _ _ _ _ _ _=>.no) (fun _ _=>.no) (fun _ _ _=>.no) (fun _ _ _ _ _ _ _=>.no) (fun _ _=>.no) (fun _ _ _=>.no) (fun _ _ _ _ _=>.no)
    (fun _ _=>.no) (fun _ _ _ _=>.no) (fun _ _ _ _=>.no) () (fun _ _ _ _=>()) v x y
def condR(g:F2→LS→AV)(a b:RunC)(call:CallF)(f:F2)(st:St):RX:=boolK (g f .nil) (a call f st) (b call f st)
def loopN(c:RunC)(n:Nat):RunC:=Nat.rec (motive:=fun _=>RunC) (fun _ _ _=>.no) (fun _ ih call f st=>RX.thn (c call f st) (fun f' st'=>ih call f' st')) n
def loopR(c:RunC):RunC:=loopN c 1000000
def skipR:RunC:=fun _ f st=>.nrm f st
def retR:RunC:=fun _ f st=>.ret f st
def exitR(id:Nat):RunC:=fun _ f st=>.ext id f st
def noR:RunC:=fun _ _ _=>.no
section
variable {P:Program}{S:Sta}
theorem loopN_ok{c:Code}{r:RunC}(hr:CodeOk P S c r){call:CallF}(hc:CallOk P S.G call):∀ (n:Nat) f st ex f' st',loopN r n call f st=RX.of ex f' st'→∀ ρ (a:Act) w,QF S.lim S.X ρ f a.tmps→Rel ρ st w→Glob ρ S.G→∀ ro:Option Nat,
    ∀ (b:Frame) (k:List Item) (cs:List Frame),b.roundOf=ro→∃ e a' w',QPost S ρ st w a.defers ex f' st' e a' w'∧ArrivesIn (Machine.fenced P (fence ro)) P (lone (b.atR a (.code c :: .inLoop c::k)) cs w) b k cs e a' w':=by
  intro n
  induction n with
  | zero=>intro f st ex f' st' h;exact absurd h RX.of_ne
  | succ n ih =>
    intro f st ex f' st' h ρ a w hF hR hG ro b k cs hbro
    have h:RX.thn (r call f st) (fun f' st'=>loopN r n call f' st')=RX.of ex f' st':=h
    cases h1:r call f st with
    | no=>rw[h1] at h;exact absurd h RX.of_ne
    | nrm f1 st1 =>
      rw[h1] at h
      obtain⟨e,a1,w1,⟨rfl,ρ1,hF1,hg1,hd1⟩,harr⟩:=hr call hc f st .normal f1 st1 h1 ρ a w hF hR hG ro b (.inLoop c::k) cs hbro trivial (room_fence _ _)
      obtain⟨e,a2,w2,⟨rfl,ρ2,hF2,hg2,hd2⟩,harr2⟩:=ih f1 st1 ex f' st' h ρ1 a1 w1 hF1 hg1.rel (hG.ext hg1.ext) ro b k cs hbro
      exact⟨_,a2,w2,⟨rfl,ρ2,hF2,hg1.trans hg2,hd2.trans hd1⟩,.of_steps (StepsIn.trans harr (.one (fenced_calm (n:=0) trivial (room_fence _ _) rfl) stepR_inLoop)) harr2⟩
    | ret f1 st1 =>
      rw[h1] at h
      obtain⟨rfl,rfl,rfl⟩:=RX.of_inj (ex:=.ret) (f:=f1) (st:=st1) h
      obtain⟨e,a1,w1,hq,harr⟩:=hr call hc f st .ret f1 st1 h1 ρ a w hF hR hG ro b (.inLoop c::k) cs hbro trivial (room_fence _ _)
      have he:=hq.1
      subst he
      exact⟨_,a1,w1,hq,.pass (x:=.inLoop c) rfl (fun _ _=>.inl (by simp[Ex.toExit])) harr⟩
    | ext j f1 st1 =>
      rw[h1] at h
      obtain⟨rfl,rfl,rfl⟩:=RX.of_inj (ex:=.exit j) (f:=f1) (st:=st1) h
      obtain⟨e,a1,w1,hq,harr⟩:=hr call hc f st (.exit j) f1 st1 h1 ρ a w hF hR hG ro b (.inLoop c::k) cs hbro trivial (room_fence _ _)
      have he:=hq.1
      subst he
      exact⟨_,a1,w1,hq,.pass (x:=.inLoop c) rfl (fun _ _=>.inl (by simp[Ex.toExit])) harr⟩
theorem boolK_ok{v:AV}{x y:RX}{ex:Ex}{f:F2}{st:St}(h:boolK v x y=RX.of ex f st):(v=.bool true∧x=RX.of ex f st)∨(v=.bool false∧y=RX.of ex f st):=by
  cases v<;>first | exact absurd h RX.of_ne | skip
  rename_i b
  cases b
  · exact .inr ⟨rfl,h⟩
  · exact .inl ⟨rfl,h⟩
theorem skip_ok:CodeOk P S .skip skipR:=fun call hc f st ex f' st' h ρ a w hF hR hG ro=>by
  obtain⟨rfl,rfl,rfl⟩:=RX.of_inj (ex:=.normal) h
  exact wpIn_skip ⟨rfl,ρ,hF,.refl hR,rfl⟩
theorem label_ok(l):CodeOk P S (.label l) skipR:=fun call hc f st ex f' st' h ρ a w hF hR hG ro=>by
  obtain⟨rfl,rfl,rfl⟩:=RX.of_inj (ex:=.normal) h
  exact wpIn_label ⟨rfl,ρ,hF,.refl hR,rfl⟩
theorem ret_ok:CodeOk P S .ret retR:=fun call hc f st ex f' st' h ρ a w hF hR hG ro=>by
  obtain⟨rfl,rfl,rfl⟩:=RX.of_inj (ex:=.ret) h
  exact wpIn_ret ⟨rfl,ρ,hF,.refl hR,rfl⟩
theorem exit_ok(id):CodeOk P S (.exit id) (exitR id):=fun call hc f st ex f' st' h ρ a w hF hR hG ro=>by
  obtain⟨rfl,rfl,rfl⟩:=RX.of_inj (ex:=.exit id) h
  exact wpIn_exit ⟨rfl,ρ,hF,.refl hR,rfl⟩
theorem scope_ok{c:Code}{r:RunC}(hr:CodeOk P S c r):CodeOk P S (.scope c) r:=fun call hc f st ex f' st' h ρ a w hF hR hG ro=>by
  refine wpIn_scope_straight ?_ (hr call hc f st ex f' st' h ρ a w hF hR hG ro)
  rintro l a' w' ⟨he,_⟩
  cases ex<;>cases he
theorem region_ok{id:Nat}{ops:Array Oper}{r:Rn}(hr:OpsOk P S ops ops.toList [] r):CodeOk P S (.region id ops false) (regR r):=fun call hc f st ex f' st' h ρ a w hF hR hG ro=>by
  have h:RR.rec (motive:=fun _=>RX) .no (fun f' st'=>.nrm f' st') (r call f .nil st)=RX.of ex f' st':=h
  cases h1:r call f .nil st with
  | no=>rw[h1] at h;exact absurd h RX.of_ne
  | ok f1 st1 =>
    rw[h1] at h
    obtain⟨rfl,rfl,rfl⟩:=RX.of_inj (ex:=.normal) h
    exact wpIn_region_list (hr call hc f .nil st f1 st1 h1 ρ a w hF (LR.nil _ _ _ _) hR hG ro _ (fun ρ' a' w' g1 g2 g3=>⟨rfl,ρ',g1,g2,g3⟩))
theorem seq_ok{x y:Code}{r1 r2:RunC}(h1:CodeOk P S x r1)(h2:CodeOk P S y r2):CodeOk P S (.seq x y) (seqR r1 r2):=fun call hc f st ex f' st' h ρ a w hF hR hG ro=>by
  have h:RX.thn (r1 call f st) (fun f' st'=>r2 call f' st')=RX.of ex f' st':=h
  cases e1:r1 call f st with
  | no=>rw[e1] at h;exact absurd h RX.of_ne
  | nrm f1 st1 =>
    rw[e1] at h
    refine wpIn_seq (wpIn_mono (h1 call hc f st .normal f1 st1 e1 ρ a w hF hR hG ro) ?_)
    rintro e a1 w1 ⟨rfl,ρ1,hF1,hg1,hd1⟩
    refine wpIn_mono (h2 call hc f1 st1 ex f' st' h ρ1 a1 w1 hF1 hg1.rel (hG.ext hg1.ext) ro) ?_
    rintro e a2 w2 ⟨rfl,ρ2,hF2,hg2,hd2⟩
    exact⟨rfl,ρ2,hF2,hg1.trans hg2,hd2.trans hd1⟩
  | ret f1 st1 =>
    rw[e1] at h
    obtain⟨rfl,rfl,rfl⟩:=RX.of_inj (ex:=.ret) h
    refine wpIn_seq (wpIn_mono (h1 call hc f st .ret f1 st1 e1 ρ a w hF hR hG ro) ?_)
    rintro e a1 w1 hq
    have he:=hq.1
    subst he
    exact hq
  | ext j f1 st1 =>
    rw[e1] at h
    obtain⟨rfl,rfl,rfl⟩:=RX.of_inj (ex:=.exit j) h
    refine wpIn_seq (wpIn_mono (h1 call hc f st (.exit j) f1 st1 e1 ρ a w hF hR hG ro) ?_)
    rintro e a1 w1 hq
    have he:=hq.1
    subst he
    exact hq
theorem cond_ok{c:Operand}{x y:Code}{g:F2→LS→AV}{r1 r2:RunC}(hg:∀ f L,g f L=valQ S [] f L c)(h1:CodeOk P S x r1)(h2:CodeOk P S y r2):CodeOk P S (.cond c x y) (condR g r1 r2):=fun call hc f st ex f' st' h ρ a w hF hR hG ro=>by
  have hv:=valQ_VR (E:=[]) (L:=.nil) hF (LR.nil _ _ _ _) hG c
  rw[← hg] at hv
  rcases boolK_ok h with⟨e1,e2⟩|⟨e1,e2⟩
  · rw[e1] at hv
    exact wpIn_cond_true (by generalize a.eval c=z at hv;cases hv;rfl) (h1 call hc f st ex f' st' e2 ρ a w hF hR hG ro)
  · rw[e1] at hv
    exact wpIn_cond_false (by generalize a.eval c=z at hv;cases hv;rfl) (h2 call hc f st ex f' st' e2 ρ a w hF hR hG ro)
theorem block_ok{id:Nat}{c:Code}{r:RunC}(hr:CodeOk P S c r):CodeOk P S (.block id c) (blockR id r):=fun call hc f st ex f' st' h ρ a w hF hR hG ro=>by
  have h:blockK id (r call f st)=RX.of ex f' st':=h
  cases e1:r call f st with
  | no=>rw[e1] at h;exact absurd h RX.of_ne
  | nrm f1 st1 =>
    rw[e1] at h
    obtain⟨rfl,rfl,rfl⟩:=RX.of_inj (ex:=.normal) h
    refine wpIn_block (wpIn_mono (hr call hc f st .normal f1 st1 e1 ρ a w hF hR hG ro) ?_)
    rintro e a1 w1 hq
    have he:=hq.1
    subst he
    exact hq
  | ret f1 st1 =>
    rw[e1] at h
    obtain⟨rfl,rfl,rfl⟩:=RX.of_inj (ex:=.ret) h
    refine wpIn_block (wpIn_mono (hr call hc f st .ret f1 st1 e1 ρ a w hF hR hG ro) ?_)
    rintro e a1 w1 hq
    have he:=hq.1
    subst he
    exact hq
  | ext j f1 st1 =>
    rw[e1] at h
    have h:Bool.rec (motive:=fun _=>RX) (.ext j f1 st1) (.nrm f1 st1) (Nat.beq j id)=RX.of ex f' st':=h
    refine wpIn_block (wpIn_mono (hr call hc f st (.exit j) f1 st1 e1 ρ a w hF hR hG ro) ?_)
    rintro e a1 w1 ⟨rfl,hq⟩
    cases hj:Nat.beq j id with
    | true =>
      rw[hj] at h
      obtain⟨rfl,rfl,rfl⟩:=RX.of_inj (ex:=.normal) h
      simp only[Ex.toExit,Exit.inBlock,beq_iff.1 hj,if_true]
      exact⟨rfl,hq⟩
    | false =>
      rw[hj] at h
      obtain⟨rfl,rfl,rfl⟩:=RX.of_inj (ex:=.exit j) h
      have:j≠id:=fun e=>by rw[beq_iff.2 e] at hj;cases hj
      simp only[Ex.toExit,Exit.inBlock,this,if_false]
      exact⟨rfl,hq⟩
theorem loop_ok{c:Code}{r:RunC}(hr:CodeOk P S c r):CodeOk P S (.loop c) (loopR r):=fun call hc f st ex f' st' h ρ a w hF hR hG ro=>fun b k cs hro hb hrm=>by
  obtain⟨e,a',w',hq,harr⟩:=loopN_ok hr hc 1000000 f st ex f' st' h ρ a w hF hR hG ro b k cs hro
  exact⟨e,a',w',hq,.of_steps (.one (fenced_calm hb hrm rfl) stepR_loop) harr⟩
theorem no_ok(c:Code):CodeOk P S c noR:=fun call hc f st ex f' st' h=>absurd h RX.of_ne
def skipC:CodeC P S .skip:=⟨skipR,skip_ok⟩
def labelC(l):CodeC P S (.label l):=⟨skipR,label_ok l⟩
def retC:CodeC P S .ret:=⟨retR,ret_ok⟩
def exitC(id):CodeC P S (.exit id):=⟨exitR id,exit_ok id⟩
def scopeC{c:Code}(x:CodeC P S c):CodeC P S (.scope c):=CodeC.rec (motive:=fun _=>CodeC P S (.scope c)) (fun r hr=>⟨r,scope_ok hr⟩) x
def regionC(id:Nat)(ops:Array Oper):CodeC P S (.region id ops false):=OpsC.rec (motive:=fun _=>CodeC P S (.region id ops false)) (fun r hr=>⟨regR r,region_ok hr⟩) (listC P S ops ops.toList [])
def seqC {x y:Code}(a:CodeC P S x)(b:CodeC P S y):CodeC P S (.seq x y):=
  CodeC.rec (motive:=fun _=>CodeC P S (.seq x y)) (fun r1 h1=>CodeC.rec (motive:=fun _=>CodeC P S (.seq x y)) (fun r2 h2=>⟨seqR r1 r2,seq_ok h1 h2⟩) b) a
def condC(c:Operand){x y:Code}(a:CodeC P S x)(b:CodeC P S y):CodeC P S (.cond c x y):=
  GetC.rec (motive:=fun _=>CodeC P S (.cond c x y)) (fun g hg=>CodeC.rec (motive:=fun _=>CodeC P S (.cond c x y)) (fun r1 h1=>CodeC.rec (motive:=fun _=>CodeC P S (.cond c x y)) (fun r2 h2=>⟨condR g r1 r2,cond_ok hg h1 h2⟩) b) a) (getC S [] c)
def blockC(id:Nat){c:Code}(x:CodeC P S c):CodeC P S (.block id c):=CodeC.rec (motive:=fun _=>CodeC P S (.block id c)) (fun r hr=>⟨blockR id r,block_ok hr⟩) x
def loopC{c:Code}(x:CodeC P S c):CodeC P S (.loop c):=CodeC.rec (motive:=fun _=>CodeC P S (.loop c)) (fun r hr=>⟨loopR r,loop_ok hr⟩) x
def noC (c:Code):CodeC P S c:=⟨noR,no_ok c⟩
def regC (P:Program)(S:Sta)(hmix:P.follows .mixedOrders=true)(id:Nat)(ops:Array Oper):(d:Bool)→CodeC P S (.region id ops d)
  | true=>drawC P S hmix id ops
  | false=>regionC id ops
def codeC(P:Program)(S:Sta)(hmix:P.follows .mixedOrders=true):(c:Code)→CodeC P S c
  | .skip=>skipC
  | .label l=>labelC l
  | .ret=>retC
  | .exit id=>exitC id
  | .scope c=>scopeC (codeC P S hmix c)
  | .region id ops d=>regC P S hmix id ops d
  | .seq x y=>seqC (codeC P S hmix x) (codeC P S hmix y)
  | .cond c x y=>condC c (codeC P S hmix x) (codeC P S hmix y)
  | .block id c=>blockC id (codeC P S hmix c)
  | .loop c=>loopC (codeC P S hmix c)
  | c=>noC c
end
end
end Go.Ev
