/-
  A quicker evaluator: code, compiled.
  A quicker evaluator: functions, compiled; calls.
-/
import Derived.Test.YtecnddogdiikiaaGreatQdr
import Derived.Test.YtecnddogdiikiaaGreatEvMo
set_option linter.unusedVariables false
set_option linter.unusedSimpArgs false
namespace Go.Ev
open Go
noncomputable section

/-- how code is left -/
inductive RX where
  | no
  | nrm (f : F2) (st : St)
  | ret (f : F2) (st : St)
  | ext (j : Nat) (f : F2) (st : St)

def RX.of : Ex → F2 → St → RX
  | .normal, f, st => .nrm f st
  | .ret, f, st => .ret f st
  | .exit j, f, st => .ext j f st

abbrev RunC := CallF → F2 → St → RX

def QPost (S : Sta) (ρ : Ren) (st : St) (w : World) (D : List Deferred) (ex : Ex) (f' : F2) (st' : St) : Exit → Act → World → Prop :=
  fun e a' w' => e = ex.toExit ∧ ∃ ρ', QF S.lim S.X ρ' f' a'.tmps ∧ Good ρ st w ρ' st' w' ∧ a'.defers = D

def CodeOk (P : Program) (S : Sta) (c : Code) (run : RunC) : Prop :=
  ∀ call, CallOk P S.G call → ∀ f st ex f' st', run call f st = RX.of ex f' st' → ∀ ρ (a : Act) w, QF S.lim S.X ρ f a.tmps → Rel ρ st w → Glob ρ S.G → ∀ ro : Option Nat,
    c.wpIn (fence ro) 0 P (QPost S ρ st w a.defers ex f' st') a w

structure CodeC (P : Program) (S : Sta) (c : Code) where
  run : RunC
  ok : CodeOk P S c run

theorem RX.of_inj {ex ex' : Ex} {f f' : F2} {st st' : St} (h : RX.of ex f st = RX.of ex' f' st') : ex = ex' ∧ f = f' ∧ st = st' := by
  cases ex <;> cases ex' <;> simp_all [RX.of]
theorem RX.of_ne {ex : Ex} {f : F2} {st : St} : RX.no ≠ RX.of ex f st := by cases ex <;> simp [RX.of]

def drawK (S : Sta) (r : Option (Fr × St)) : RX := match r with
  | some (⟨n, _, t, _⟩, st) => Bool.rec (motive := fun _ => RX) .no (.nrm (f2of t) st) (Nat.beq n S.lim)
  | none => .no
/-- a drawn region in its own order: what stands of it once for all is looked at elsewhere -/
def evDrawM (P : Program) (G : Nat) (call : CallF) (ops : Array Oper) (n : Nat) (fr : Fr) (st : St) : Option (Fr × St) :=
  match st with
  | ⟨h, d, nx⟩ => bif Nat.ble (nx + n) (2 ^ d) && deadFrom h nx n then
        drawEnd (dGo ⟨P, G, call, ops, nx + n⟩ ops.toList (ancsOf ops) 0 ⟨fr, ⟨h, d, nx + n⟩, [], [], [], [], nx⟩)
      else none

theorem evDrawM_sound {P : Program} {G n : Nat} {call : CallF} (hcall : CallOk P G call) (hmix : P.follows .mixedOrders = true) {ops : Array Oper} (hst : StaticOk P ops (ancsOf ops)) {id : Nat} {fr fr' : Fr} {st st' : St} {ρ : Ren} {a : Act} {w : World}
    (h : evDrawM P G call ops n fr st = some (fr', st')) (hF : FR ρ fr a.tmps) (hR : Rel ρ st w) (hG : Glob ρ G) {ro : Option Nat} {Q : Exit → Act → World → Prop}
    (hQ : ∀ ρ' a' w', FR ρ' fr' a'.tmps → Good ρ st w ρ' st' w' → a'.defers = a.defers → Q .normal a' w') : (Code.region id ops true).wpIn (fence ro) 0 P Q a w := by
  obtain ⟨hp, d, nx⟩ := st
  simp only [evDrawM] at h
  obtain ⟨hc, h⟩ := bif_some h
  simp only [Bool.and_eq_true, ble_iff] at hc
  obtain ⟨hle, hdead⟩ := hc
  cases hgo : dGo ⟨P, G, call, ops, nx + n⟩ ops.toList (ancsOf ops) 0 ⟨fr, ⟨hp, d, nx + n⟩, [], [], [], [], nx⟩ with
  | none => rw [hgo] at h; simp [drawEnd] at h
  | some s =>
    rw [hgo] at h
    refine dGo_sound hcall hmix hst hle hdead hgo hF hR hG ?_
    obtain ⟨sfr, sst, spend, shist, srds, ssofts, snid⟩ := s
    simp only [drawEnd, Option.some.injEq, Prod.mk.injEq] at h
    obtain ⟨rfl, rfl⟩ := h
    exact hQ

def drawR (P : Program) (S : Sta) (ops : Array Oper) (n : Nat) (call : CallF) (f : F2) (st : St) : RX := drawK S (evDrawM P S.G call ops n (frQ S f) st)

/-- the quick way, as far as it goes -/
def draw1K (r : RR) : RX := RR.rec (motive := fun _ => RX) .no (fun f' st' => .nrm f' st') r
def draw1X (r : CallF → F2 → St → RR) (call : CallF) (f : F2) (st : St) : RX := draw1K (r call f st)

theorem draw_QF {P : Program} {S : Sta} {hmix : P.follows .mixedOrders = true} {id : Nat} {ops : Array Oper} {call : CallF} (hc : CallOk P S.G call) (hst : StaticOk P ops (ancsOf ops)) {f f' : F2} {hp : T AO} {d nx : Nat} {st' : St} {s : DS}
    (h : dGo ⟨P, S.G, call, ops, nx + 0⟩ ops.toList (ancsOf ops) 0 ⟨frQ S f, ⟨hp, d, nx + 0⟩, [], [], [], [], nx⟩ = some s) (he : DEnd S f' st' s)
    {ρ : Ren} {a : Act} {w : World} (hF : QF S.lim S.X ρ f a.tmps) (hR : Rel ρ ⟨hp, d, nx⟩ w) (hG : Glob ρ S.G) (ro : Option Nat) :
    (Code.region id ops true).wpIn (fence ro) 0 P (QPost S ρ ⟨hp, d, nx⟩ w a.defers .normal f' st') a w := by
  refine dGo_sound hc hmix hst hR.lt rfl h (frQ_FR hF) hR hG (fun ρ' a' w' g1 g2 g3 => ⟨rfl, ρ', ⟨hF.le, by rw [← he.lim]; exact g1.size, fun i hi hx => ?_⟩, ?_, g3⟩)
  · have := g1.get i
    rw [he.val i hi hx] at this
    exact this
  · rw [he.pend] at g2
    have e : allPend s.st [] = st' := he.st
    rw [e] at g2
    exact g2

def drawSlow (P : Program) (S : Sta) (hmix : P.follows .mixedOrders = true) (id : Nat) (ops : Array Oper) (hst : StaticOk P ops (ancsOf ops)) : CodeC P S (.region id ops true) :=
  ⟨drawR P S ops (countA P ops.toList), fun call hc f st ex f' st' h ρ a w hF hR hG ro => by
      have h : drawK S (evDrawM P S.G call ops (countA P ops.toList) (frQ S f) st) = RX.of ex f' st' := h
      cases h1 : evDrawM P S.G call ops (countA P ops.toList) (frQ S f) st with
      | none => rw [h1] at h; exact absurd h RX.of_ne
      | some p =>
        obtain ⟨⟨n, d, t, ds⟩, st1⟩ := p
        rw [h1] at h
        simp only [drawK] at h
        cases hb : Nat.beq n S.lim with
        | false => rw [hb] at h; exact absurd h RX.of_ne
        | true =>
          rw [hb] at h
          obtain ⟨rfl, rfl, rfl⟩ := RX.of_inj (ex := .normal) h
          have hn := beq_iff.1 hb
          subst hn
          refine evDrawM_sound hc hmix hst h1 (frQ_FR hF) hR hG (fun ρ' a' w' g1 g2 g3 => ⟨rfl, ρ', ⟨hF.le, g1.size, fun i hi _ => ?_⟩, g2, g3⟩)
          have := hF.le
          rw [f2of_at t i (by omega)]
          exact g1.val i hi⟩

def drawQuick (P : Program) (S : Sta) (hmix : P.follows .mixedOrders = true) (id : Nat) (ops : Array Oper) (hst : StaticOk P ops (ancsOf ops)) (D : DrawC P S ops) : CodeC P S (.region id ops true) :=
  match D with
  | ⟨r, hr⟩ => ⟨draw1X r, fun call hc f st ex f' st' h ρ a w hF hR hG ro => by
      have h : draw1K (r call f st) = RX.of ex f' st' := h
      obtain ⟨hp, d, nx⟩ := st
      cases h1 : r call f ⟨hp, d, nx⟩ with
      | no => rw [h1] at h; exact absurd h RX.of_ne
      | ok f1 st1 =>
        rw [h1] at h
        obtain ⟨rfl, rfl, rfl⟩ := RX.of_inj (ex := .normal) h
        obtain ⟨s', e1, e2⟩ := hr call f hp d nx f1 st1 h1 hF.le
        exact draw_QF (hmix := hmix) hc hst e1 e2 hF hR hG ro⟩

/-- what must come ahead of the one call or write; where there is none: all -/
def headMask (P : Program) (ops : Array Oper) : Nat :=
  bif Nat.beq (heavyAt P ops.toList 0) ops.size then 2 ^ ops.size - 1 else (ancsOf ops).getD (heavyAt P ops.toList 0) 0

def drawC (P : Program) (S : Sta) (hmix : P.follows .mixedOrders = true) (id : Nat) (ops : Array Oper) : CodeC P S (.region id ops true) :=
  match hT : staticM P ops with
  | true => match dFits P (heavyAt P ops.toList 0) (headMask P ops) ops.toList (ancsOf ops) 0 with
    | true => drawQuick P S hmix id ops (staticM_ok hT) (draw1C P S ops (heavyAt P ops.toList 0) (headMask P ops))
    | false => drawSlow P S hmix id ops (staticM_ok hT)
  | false => ⟨fun _ _ _ => .no, fun call hc f st ex f' st' h => absurd h RX.of_ne⟩

/-! ### The parts of code -/
def regR (r : Rn) (call : CallF) (f : F2) (st : St) : RX := RR.rec (motive := fun _ => RX) .no (fun f' st' => .nrm f' st') (r call f .nil st)
def RX.thn (r : RX) (k : F2 → St → RX) : RX := RX.rec (motive := fun _ => (F2 → St → RX) → RX) (fun _ => .no) (fun f st k => k f st) (fun f st _ => .ret f st) (fun j f st _ => .ext j f st) r k
def seqR (a b : RunC) (call : CallF) (f : F2) (st : St) : RX := RX.thn (a call f st) (fun f' st' => b call f' st')
def blockK (id : Nat) (r : RX) : RX := RX.rec (motive := fun _ => Nat → RX) (fun _ => .no) (fun f st _ => .nrm f st) (fun f st _ => .ret f st) (fun j f st id => Bool.rec (motive := fun _ => RX) (.ext j f st) (.nrm f st) (Nat.beq j id)) r id
def blockR (id : Nat) (c : RunC) (call : CallF) (f : F2) (st : St) : RX := blockK id (c call f st)
def boolK (v : AV) (x y : RX) : RX :=
  AV.rec (motive_1 := fun _ => RX → RX → RX) (motive_2 := fun _ => Unit)
    (fun _ _ => .no) (fun b x y => Bool.rec (motive := fun _ => RX) y x b) (fun _ _ _ _ => .no) (fun _ _ _ _ => .no) (fun _ _ => .no) (fun _ _ _ _ => .no) (fun _ _ => .no)
    (fun _ _ _ _ _ _ _ => .no) (fun _ _ => .no) (fun _ _ _ => .no) (fun _ _ _ _ _ _ _ => .no) (fun _ _ => .no) (fun _ _ _ => .no) (fun _ _ _ _ _ => .no)
    (fun _ _ => .no) (fun _ _ _ _ => .no) (fun _ _ _ _ => .no) () (fun _ _ _ _ => ()) v x y
def condR (g : F2 → LS → AV) (a b : RunC) (call : CallF) (f : F2) (st : St) : RX := boolK (g f .nil) (a call f st) (b call f st)
def loopN (c : RunC) (n : Nat) : RunC := Nat.rec (motive := fun _ => RunC) (fun _ _ _ => .no) (fun _ ih call f st => RX.thn (c call f st) (fun f' st' => ih call f' st')) n
def loopR (c : RunC) : RunC := loopN c 1000000
def skipR : RunC := fun _ f st => .nrm f st
def retR : RunC := fun _ f st => .ret f st
def exitR (id : Nat) : RunC := fun _ f st => .ext id f st
def noR : RunC := fun _ _ _ => .no

section
variable {P : Program} {S : Sta}

theorem loopN_ok {c : Code} {r : RunC} (hr : CodeOk P S c r) {call : CallF} (hc : CallOk P S.G call) : ∀ (n : Nat) f st ex f' st', loopN r n call f st = RX.of ex f' st' → ∀ ρ (a : Act) w, QF S.lim S.X ρ f a.tmps → Rel ρ st w → Glob ρ S.G → ∀ ro : Option Nat,
    ∀ (b : Frame) (k : List Item) (cs : List Frame), b.roundOf = ro → ∃ e a' w', QPost S ρ st w a.defers ex f' st' e a' w' ∧ ArrivesIn (Machine.fenced P (fence ro)) P (lone (b.atR a (.code c :: .inLoop c :: k)) cs w) b k cs e a' w' := by
  intro n
  induction n with
  | zero => intro f st ex f' st' h; exact absurd h RX.of_ne
  | succ n ih =>
    intro f st ex f' st' h ρ a w hF hR hG ro b k cs hbro
    have h : RX.thn (r call f st) (fun f' st' => loopN r n call f' st') = RX.of ex f' st' := h
    cases h1 : r call f st with
    | no => rw [h1] at h; exact absurd h RX.of_ne
    | nrm f1 st1 =>
      rw [h1] at h
      obtain ⟨e, a1, w1, ⟨rfl, ρ1, hF1, hg1, hd1⟩, harr⟩ := hr call hc f st .normal f1 st1 h1 ρ a w hF hR hG ro b (.inLoop c :: k) cs hbro trivial (room_fence _ _)
      obtain ⟨e, a2, w2, ⟨rfl, ρ2, hF2, hg2, hd2⟩, harr2⟩ := ih f1 st1 ex f' st' h ρ1 a1 w1 hF1 hg1.rel (hG.ext hg1.ext) ro b k cs hbro
      exact ⟨_, a2, w2, ⟨rfl, ρ2, hF2, hg1.trans hg2, hd2.trans hd1⟩, .of_steps (StepsIn.trans harr (.one (fenced_calm (n := 0) trivial (room_fence _ _) rfl) stepR_inLoop)) harr2⟩
    | ret f1 st1 =>
      rw [h1] at h
      obtain ⟨rfl, rfl, rfl⟩ := RX.of_inj (ex := .ret) (f := f1) (st := st1) h
      obtain ⟨e, a1, w1, hq, harr⟩ := hr call hc f st .ret f1 st1 h1 ρ a w hF hR hG ro b (.inLoop c :: k) cs hbro trivial (room_fence _ _)
      have he := hq.1
      subst he
      exact ⟨_, a1, w1, hq, .pass (x := .inLoop c) rfl (fun _ _ => .inl (by simp [Ex.toExit])) harr⟩
    | ext j f1 st1 =>
      rw [h1] at h
      obtain ⟨rfl, rfl, rfl⟩ := RX.of_inj (ex := .exit j) (f := f1) (st := st1) h
      obtain ⟨e, a1, w1, hq, harr⟩ := hr call hc f st (.exit j) f1 st1 h1 ρ a w hF hR hG ro b (.inLoop c :: k) cs hbro trivial (room_fence _ _)
      have he := hq.1
      subst he
      exact ⟨_, a1, w1, hq, .pass (x := .inLoop c) rfl (fun _ _ => .inl (by simp [Ex.toExit])) harr⟩

theorem boolK_ok {v : AV} {x y : RX} {ex : Ex} {f : F2} {st : St} (h : boolK v x y = RX.of ex f st) : (v = .bool true ∧ x = RX.of ex f st) ∨ (v = .bool false ∧ y = RX.of ex f st) := by
  cases v <;> first | exact absurd h RX.of_ne | skip
  rename_i b
  cases b
  · exact .inr ⟨rfl, h⟩
  · exact .inl ⟨rfl, h⟩

theorem skip_ok : CodeOk P S .skip skipR := fun call hc f st ex f' st' h ρ a w hF hR hG ro => by
  obtain ⟨rfl, rfl, rfl⟩ := RX.of_inj (ex := .normal) h
  exact wpIn_skip ⟨rfl, ρ, hF, .refl hR, rfl⟩
theorem label_ok (l) : CodeOk P S (.label l) skipR := fun call hc f st ex f' st' h ρ a w hF hR hG ro => by
  obtain ⟨rfl, rfl, rfl⟩ := RX.of_inj (ex := .normal) h
  exact wpIn_label ⟨rfl, ρ, hF, .refl hR, rfl⟩
theorem ret_ok : CodeOk P S .ret retR := fun call hc f st ex f' st' h ρ a w hF hR hG ro => by
  obtain ⟨rfl, rfl, rfl⟩ := RX.of_inj (ex := .ret) h
  exact wpIn_ret ⟨rfl, ρ, hF, .refl hR, rfl⟩
theorem exit_ok (id) : CodeOk P S (.exit id) (exitR id) := fun call hc f st ex f' st' h ρ a w hF hR hG ro => by
  obtain ⟨rfl, rfl, rfl⟩ := RX.of_inj (ex := .exit id) h
  exact wpIn_exit ⟨rfl, ρ, hF, .refl hR, rfl⟩
theorem scope_ok {c : Code} {r : RunC} (hr : CodeOk P S c r) : CodeOk P S (.scope c) r := fun call hc f st ex f' st' h ρ a w hF hR hG ro => by
  refine wpIn_scope_straight ?_ (hr call hc f st ex f' st' h ρ a w hF hR hG ro)
  rintro l a' w' ⟨he, _⟩
  cases ex <;> cases he
theorem region_ok {id : Nat} {ops : Array Oper} {r : Rn} (hr : OpsOk P S ops ops.toList [] r) : CodeOk P S (.region id ops false) (regR r) := fun call hc f st ex f' st' h ρ a w hF hR hG ro => by
  have h : RR.rec (motive := fun _ => RX) .no (fun f' st' => .nrm f' st') (r call f .nil st) = RX.of ex f' st' := h
  cases h1 : r call f .nil st with
  | no => rw [h1] at h; exact absurd h RX.of_ne
  | ok f1 st1 =>
    rw [h1] at h
    obtain ⟨rfl, rfl, rfl⟩ := RX.of_inj (ex := .normal) h
    exact wpIn_region_list (hr call hc f .nil st f1 st1 h1 ρ a w hF (LR.nil _ _ _ _) hR hG ro _ (fun ρ' a' w' g1 g2 g3 => ⟨rfl, ρ', g1, g2, g3⟩))
theorem seq_ok {x y : Code} {r1 r2 : RunC} (h1 : CodeOk P S x r1) (h2 : CodeOk P S y r2) : CodeOk P S (.seq x y) (seqR r1 r2) := fun call hc f st ex f' st' h ρ a w hF hR hG ro => by
  have h : RX.thn (r1 call f st) (fun f' st' => r2 call f' st') = RX.of ex f' st' := h
  cases e1 : r1 call f st with
  | no => rw [e1] at h; exact absurd h RX.of_ne
  | nrm f1 st1 =>
    rw [e1] at h
    refine wpIn_seq (wpIn_mono (h1 call hc f st .normal f1 st1 e1 ρ a w hF hR hG ro) ?_)
    rintro e a1 w1 ⟨rfl, ρ1, hF1, hg1, hd1⟩
    refine wpIn_mono (h2 call hc f1 st1 ex f' st' h ρ1 a1 w1 hF1 hg1.rel (hG.ext hg1.ext) ro) ?_
    rintro e a2 w2 ⟨rfl, ρ2, hF2, hg2, hd2⟩
    exact ⟨rfl, ρ2, hF2, hg1.trans hg2, hd2.trans hd1⟩
  | ret f1 st1 =>
    rw [e1] at h
    obtain ⟨rfl, rfl, rfl⟩ := RX.of_inj (ex := .ret) h
    refine wpIn_seq (wpIn_mono (h1 call hc f st .ret f1 st1 e1 ρ a w hF hR hG ro) ?_)
    rintro e a1 w1 hq
    have he := hq.1
    subst he
    exact hq
  | ext j f1 st1 =>
    rw [e1] at h
    obtain ⟨rfl, rfl, rfl⟩ := RX.of_inj (ex := .exit j) h
    refine wpIn_seq (wpIn_mono (h1 call hc f st (.exit j) f1 st1 e1 ρ a w hF hR hG ro) ?_)
    rintro e a1 w1 hq
    have he := hq.1
    subst he
    exact hq
theorem cond_ok {c : Operand} {x y : Code} {g : F2 → LS → AV} {r1 r2 : RunC} (hg : ∀ f L, g f L = valQ S [] f L c) (h1 : CodeOk P S x r1) (h2 : CodeOk P S y r2) : CodeOk P S (.cond c x y) (condR g r1 r2) := fun call hc f st ex f' st' h ρ a w hF hR hG ro => by
  have hv := valQ_VR (E := []) (L := .nil) hF (LR.nil _ _ _ _) hG c
  rw [← hg] at hv
  rcases boolK_ok h with ⟨e1, e2⟩ | ⟨e1, e2⟩
  · rw [e1] at hv
    exact wpIn_cond_true (by generalize a.eval c = z at hv; cases hv; rfl) (h1 call hc f st ex f' st' e2 ρ a w hF hR hG ro)
  · rw [e1] at hv
    exact wpIn_cond_false (by generalize a.eval c = z at hv; cases hv; rfl) (h2 call hc f st ex f' st' e2 ρ a w hF hR hG ro)
theorem block_ok {id : Nat} {c : Code} {r : RunC} (hr : CodeOk P S c r) : CodeOk P S (.block id c) (blockR id r) := fun call hc f st ex f' st' h ρ a w hF hR hG ro => by
  have h : blockK id (r call f st) = RX.of ex f' st' := h
  cases e1 : r call f st with
  | no => rw [e1] at h; exact absurd h RX.of_ne
  | nrm f1 st1 =>
    rw [e1] at h
    obtain ⟨rfl, rfl, rfl⟩ := RX.of_inj (ex := .normal) h
    refine wpIn_block (wpIn_mono (hr call hc f st .normal f1 st1 e1 ρ a w hF hR hG ro) ?_)
    rintro e a1 w1 hq
    have he := hq.1
    subst he
    exact hq
  | ret f1 st1 =>
    rw [e1] at h
    obtain ⟨rfl, rfl, rfl⟩ := RX.of_inj (ex := .ret) h
    refine wpIn_block (wpIn_mono (hr call hc f st .ret f1 st1 e1 ρ a w hF hR hG ro) ?_)
    rintro e a1 w1 hq
    have he := hq.1
    subst he
    exact hq
  | ext j f1 st1 =>
    rw [e1] at h
    have h : Bool.rec (motive := fun _ => RX) (.ext j f1 st1) (.nrm f1 st1) (Nat.beq j id) = RX.of ex f' st' := h
    refine wpIn_block (wpIn_mono (hr call hc f st (.exit j) f1 st1 e1 ρ a w hF hR hG ro) ?_)
    rintro e a1 w1 ⟨rfl, hq⟩
    cases hj : Nat.beq j id with
    | true =>
      rw [hj] at h
      obtain ⟨rfl, rfl, rfl⟩ := RX.of_inj (ex := .normal) h
      simp only [Ex.toExit, Exit.inBlock, beq_iff.1 hj, if_true]
      exact ⟨rfl, hq⟩
    | false =>
      rw [hj] at h
      obtain ⟨rfl, rfl, rfl⟩ := RX.of_inj (ex := .exit j) h
      have : j ≠ id := fun e => by rw [beq_iff.2 e] at hj; cases hj
      simp only [Ex.toExit, Exit.inBlock, this, if_false]
      exact ⟨rfl, hq⟩
theorem loop_ok {c : Code} {r : RunC} (hr : CodeOk P S c r) : CodeOk P S (.loop c) (loopR r) := fun call hc f st ex f' st' h ρ a w hF hR hG ro => fun b k cs hro hb hrm => by
  obtain ⟨e, a', w', hq, harr⟩ := loopN_ok hr hc 1000000 f st ex f' st' h ρ a w hF hR hG ro b k cs hro
  exact ⟨e, a', w', hq, .of_steps (.one (fenced_calm hb hrm rfl) stepR_loop) harr⟩
theorem no_ok (c : Code) : CodeOk P S c noR := fun call hc f st ex f' st' h => absurd h RX.of_ne

def skipC : CodeC P S .skip := ⟨skipR, skip_ok⟩
def labelC (l) : CodeC P S (.label l) := ⟨skipR, label_ok l⟩
def retC : CodeC P S .ret := ⟨retR, ret_ok⟩
def exitC (id) : CodeC P S (.exit id) := ⟨exitR id, exit_ok id⟩
def scopeC {c : Code} (x : CodeC P S c) : CodeC P S (.scope c) := CodeC.rec (motive := fun _ => CodeC P S (.scope c)) (fun r hr => ⟨r, scope_ok hr⟩) x
def regionC (id : Nat) (ops : Array Oper) : CodeC P S (.region id ops false) := OpsC.rec (motive := fun _ => CodeC P S (.region id ops false)) (fun r hr => ⟨regR r, region_ok hr⟩) (listC P S ops ops.toList [])
def seqC {x y : Code} (a : CodeC P S x) (b : CodeC P S y) : CodeC P S (.seq x y) :=
  CodeC.rec (motive := fun _ => CodeC P S (.seq x y)) (fun r1 h1 => CodeC.rec (motive := fun _ => CodeC P S (.seq x y)) (fun r2 h2 => ⟨seqR r1 r2, seq_ok h1 h2⟩) b) a
def condC (c : Operand) {x y : Code} (a : CodeC P S x) (b : CodeC P S y) : CodeC P S (.cond c x y) :=
  GetC.rec (motive := fun _ => CodeC P S (.cond c x y)) (fun g hg => CodeC.rec (motive := fun _ => CodeC P S (.cond c x y)) (fun r1 h1 => CodeC.rec (motive := fun _ => CodeC P S (.cond c x y)) (fun r2 h2 => ⟨condR g r1 r2, cond_ok hg h1 h2⟩) b) a) (getC S [] c)
def blockC (id : Nat) {c : Code} (x : CodeC P S c) : CodeC P S (.block id c) := CodeC.rec (motive := fun _ => CodeC P S (.block id c)) (fun r hr => ⟨blockR id r, block_ok hr⟩) x
def loopC {c : Code} (x : CodeC P S c) : CodeC P S (.loop c) := CodeC.rec (motive := fun _ => CodeC P S (.loop c)) (fun r hr => ⟨loopR r, loop_ok hr⟩) x
def noC (c : Code) : CodeC P S c := ⟨noR, no_ok c⟩
def regC (P : Program) (S : Sta) (hmix : P.follows .mixedOrders = true) (id : Nat) (ops : Array Oper) : (d : Bool) → CodeC P S (.region id ops d)
  | true => drawC P S hmix id ops
  | false => regionC id ops

def codeC (P : Program) (S : Sta) (hmix : P.follows .mixedOrders = true) : (c : Code) → CodeC P S c
  | .skip => skipC
  | .label l => labelC l
  | .ret => retC
  | .exit id => exitC id
  | .scope c => scopeC (codeC P S hmix c)
  | .region id ops d => regC P S hmix id ops d
  | .seq x y => seqC (codeC P S hmix x) (codeC P S hmix y)
  | .cond c x y => condC c (codeC P S hmix x) (codeC P S hmix y)
  | .block id c => blockC id (codeC P S hmix c)
  | .loop c => loopC (codeC P S hmix c)
  | c => noC c

end
end
end Go.Ev

namespace Go.Ev
open Go Go.RowKit
noncomputable section

def topF0 : F0 := ⟨.top, .top, .top, .top, .top, .top, .top, .top⟩
def topF1 : F1 := ⟨topF0, topF0, topF0, topF0, topF0, topF0, topF0, topF0⟩
def topF2 : F2 := ⟨topF1, topF1, topF1, topF1, topF1, topF1, topF1, topF1⟩

theorem topF2_at (i : Nat) : topF2.at i = .top := by
  unfold F2.at
  have h1 : ∀ a, topF2.get a = topF1 := fun a => by unfold F2.get; split <;> rfl
  have h2 : ∀ a, topF1.get a = topF0 := fun a => by unfold F1.get; split <;> rfl
  have h3 : ∀ a, topF0.get a = .top := fun a => by unfold F0.get; split <;> rfl
  rw [h1, h2, h3]

/-- the arguments, from place i on -/
def argsN : List AV → Nat → F2 → F2
  | [], _, f => f
  | v :: l, i, f => argsN l (i + 1) ((putC i).run f v)

theorem argsN_at : ∀ (l : List AV) (i : Nat) (f : F2) (j : Nat), i + l.length ≤ 512 → j < 512 → (argsN l i f).at j = if h : i ≤ j ∧ j < i + l.length then l[j - i]'(by omega) else f.at j
  | [], i, f, j, _, _ => by rw [dif_neg (by simp)]; rfl
  | v :: l, i, f, j, h, hj => by
    simp only [List.length_cons] at h
    rw [argsN, argsN_at l (i + 1) _ j (by omega) hj, (putC i).ok]
    by_cases h1 : i + 1 ≤ j ∧ j < i + 1 + l.length
    · rw [dif_pos h1, dif_pos (by simp only [List.length_cons]; omega)]
      have : j - i = (j - (i + 1)) + 1 := by omega
      simp only [this, List.getElem_cons_succ]
    · rw [dif_neg h1]
      by_cases h2 : j = i
      · subst h2
        rw [dif_pos (by simp only [List.length_cons]; omega), F2.at_put_same]
        simp
      · rw [dif_neg (by simp only [List.length_cons]; omega), F2.at_put_ne f i j (by omega) hj (Ne.symm h2)]

/-- the places known ahead -/
structure ArgsQ (n i : Nat) where
  run : List AV → F2 → F2
  ok : ∀ l f, l.length ≤ n → run l f = argsN l i f
def argsK (p : F2 → AV → F2) (r : List AV → F2 → F2) (l : List AV) (f : F2) : F2 := List.rec (motive := fun _ => F2) f (fun v t _ => r t (p f v)) l
def args0 (_ : List AV) (f : F2) : F2 := f
theorem args0_ok (i : Nat) (l : List AV) (f : F2) (h : l.length ≤ 0) : args0 l f = argsN l i f := by
  cases l with
  | nil => rfl
  | cons v l => simp at h
theorem argsK_ok {n i : Nat} {r : List AV → F2 → F2} (hr : ∀ l f, l.length ≤ n → r l f = argsN l (i + 1) f) (l : List AV) (f : F2) (h : l.length ≤ n + 1) : argsK (putC i).run r l f = argsN l i f := by
  cases l with
  | nil => rfl
  | cons v l => exact hr l _ (by simpa using h)
def argsQ : (n i : Nat) → ArgsQ n i
  | 0, i => ⟨args0, args0_ok i⟩
  | n + 1, i => ArgsQ.rec (motive := fun _ => ArgsQ (n + 1) i) (fun r hr => ⟨argsK (putC i).run r, argsK_ok hr⟩) (argsQ n (i + 1))

theorem argsN_QF {ρ : Ren} {lim X : Nat} {args : List AV} {cargs : Array Value} (h : VRs ρ args cargs.toList) (h1 : args.length ≤ lim) (h2 : lim ≤ 512) :
    QF lim X ρ (argsN args 0 topF2) (cargs ++ Array.replicate (lim - cargs.size) undef) := by
  have hl : args.length = cargs.size := by rw [← Array.length_toList]; exact VRs.length h
  refine ⟨h2, by simp only [Array.size_append, Array.size_replicate]; omega, ?_⟩
  intro i hi _
  rw [argsN_at args 0 topF2 i (by omega) (by omega)]
  split
  · rename_i hh
    rw [Array.getD_eq_getD_getElem?]
    obtain ⟨v, hv, hvr⟩ := h.get (i - 0) _ (List.getElem?_eq_getElem (by omega))
    have : i < cargs.size := by omega
    rw [Array.getElem?_append_left this]
    rw [Nat.sub_zero, Array.getElem?_toList] at hv
    rw [hv]; exact hvr
  · rw [topF2_at]; exact .top _

/-! ### Results -/
structure ResC (P : Program) (S : Sta) (rs : List ResultVar) where
  run : F2 → St → (List AV → Option (AV × St)) → Option (AV × St)
  ok : ∀ f st k r, run f st k = some r → ∃ l, k l = some r ∧ ∀ ρ tmps w, QF S.lim S.X ρ f tmps → Rel ρ st w → Glob ρ S.G → ∃ vs : List Value, VRs ρ l vs ∧ (rs.mapM (resF tmps) : Sem (List Value)).run P w = .ok vs w

def resT (g : F2 → LS → AV) (r : F2 → St → (List AV → Option (AV × St)) → Option (AV × St)) (f : F2) (st : St) (k : List AV → Option (AV × St)) : Option (AV × St) := r f st (fun l => k (g f .nil :: l))

def cellR (P : Program) (t : TypeId) (x : AV) (st : St) : Option AV :=
  match x with
  | .ptr i off => match aggN P t with
      | some (some n) => ((st.obj i).blk off n).map fun b => AV.agg b.toL
      | some none => (st.obj i).cell? off
      | none => none
  | _ => none

theorem cellR_sound {P : Program} {ρ : Ren} {t : TypeId} {x : AV} {v : AV} {st : St} {u : Value} {w : World} (h : cellR P t x st = some v) (hx : VR ρ x u) (hR : Rel ρ st w) :
    ∃ z, (do loadVar t (← asAddr u) : Sem Value).run P w = .ok z w ∧ VR ρ v z := by
  unfold cellR at h
  split at h
  · rename_i i off
    cases hx with | ptr _ _ L hL =>
    have ha : asAddr (.pointer (some (L.at off))) = pure (L.at off) := rfl
    split at h
    · rename_i n hn
      simp only [Option.map_eq_some_iff] at h
      obtain ⟨b, hb, rfl⟩ := h
      obtain ⟨L', hL', us, g1, g2, g3, _⟩ := hR.blk hb
      rw [hL] at hL'; cases hL'
      exact ⟨.agg us.toArray, by simp only [Sem.run_bind, ha, Sem.run_pure, Result.andThen_ok]; exact run_loadVar_agg hn g2 (fun j u hj => by rw [L.at_add]; exact g3 j u hj), .agg _ _ (by simpa using g1)⟩
    · rename_i hn
      obtain ⟨L', hL', u, g1, g2⟩ := hR.cell h
      rw [hL] at hL'; cases hL'
      exact ⟨u, by simp only [Sem.run_bind, ha, Sem.run_pure, Result.andThen_ok]; exact run_loadVar_one hn g1, g2⟩
    · cases h
  · cases h

def resK (P : Program) (t : TypeId) (g : F2 → LS → AV) (r : F2 → St → (List AV → Option (AV × St)) → Option (AV × St)) (f : F2) (st : St) (k : List AV → Option (AV × St)) : Option (AV × St) :=
  match cellR P t (g f .nil) st with
  | some v => r f st (fun l => k (v :: l))
  | none => none

def resC (P : Program) (S : Sta) : (rs : List ResultVar) → ResC P S rs
  | [] => ⟨fun _ _ k => k [], fun f st k r h => ⟨[], h, fun ρ tmps w _ _ _ => ⟨[], .nil, rfl⟩⟩⟩
  | .tmp t :: rs => match getC S [] (.tmp t), resC P S rs with
    | ⟨g, hg⟩, ⟨q, hq⟩ => ⟨resT g q, fun f st k r h => by
      obtain ⟨l, h1, h2⟩ := hq f st (fun l => k (g f .nil :: l)) r h
      refine ⟨g f .nil :: l, h1, fun ρ tmps w hF hR hG => ?_⟩
      obtain ⟨vs, h3, h4⟩ := h2 ρ tmps w hF hR hG
      have hv := valQ_VR (S := S) (E := []) (L := .nil) (a := { tmps := tmps, defers := [] }) hF (LR.nil _ _ _ _) hG (.tmp t)
      rw [← hg] at hv
      exact ⟨_, .cons hv h3, by simp only [List.mapM_cons, resF, Sem.run_bind, Sem.run_pure, Result.andThen_ok, h4]; rfl⟩⟩
  | .cell a t :: rs => match getC S [] (.tmp a), resC P S rs with
    | ⟨g, hg⟩, ⟨q, hq⟩ => ⟨resK P t g q, fun f st k r h => by
      unfold resK at h
      split at h
      · rename_i v hcell
        obtain ⟨l, h1, h2⟩ := hq f st (fun l => k (v :: l)) r h
        refine ⟨v :: l, h1, fun ρ tmps w hF hR hG => ?_⟩
        obtain ⟨vs, h3, h4⟩ := h2 ρ tmps w hF hR hG
        have hv := valQ_VR (S := S) (E := []) (L := .nil) (a := { tmps := tmps, defers := [] }) hF (LR.nil _ _ _ _) hG (.tmp a)
        rw [← hg] at hv
        obtain ⟨z, h5, h6⟩ := cellR_sound hcell hv hR
        have h5 : (do loadVar t (← asAddr (tmps.getD a undef)) : Sem Value).run P w = .ok z w := h5
        refine ⟨_, .cons h6 h3, ?_⟩
        simp only [List.mapM_cons, resF, Sem.run_bind, Sem.run_pure, Result.andThen_ok, h4] at h5 ⊢
        rw [h5]
        simp only [Result.andThen_ok, h4]
      · cases h⟩

/-! ### Functions -/
structure FnC (P : Program) (G f : Nat) where
  run : CallF → List AV → St → Option (AV × St)
  ok : ∀ call, CallOk P G call → ∀ args st v st', run call args st = some (v, st') → ∀ ρ w (cargs : Array Value), Rel ρ st w → Glob ρ G → VRs ρ args cargs.toList →
    (∀ w, (callFunc f cargs).run P w = .ok (.enter f cargs) w) ∧ Calls P f cargs w fun e w' => ∃ vc, e = .returned vc ∧ ∃ ρ', VR ρ' v vc ∧ Good ρ st w ρ' st' w'

def oneK (st : St) (l : List AV) : Option (AV × St) := some (oneA l, st)
def fnK (q : F2 → St → (List AV → Option (AV × St)) → Option (AV × St)) (r : RX) : Option (AV × St) :=
  RX.rec (motive := fun _ => Option (AV × St)) none (fun f st => q f st (oneK st)) (fun f st => q f st (oneK st)) (fun _ _ _ => none) r
def lenLe (n : Nat) : List AV → Bool
  | [] => true
  | _ :: l => match n with
    | 0 => false
    | n + 1 => lenLe n l
theorem lenLe_ok : ∀ (l : List AV) (n : Nat), lenLe n l = true → l.length ≤ n
  | [], _, _ => Nat.zero_le _
  | _ :: _, 0, h => by cases h
  | _ :: l, n + 1, h => by have := lenLe_ok l n h; simp only [List.length_cons]; omega
def fnR (lim : Nat) (put : List AV → F2 → F2) (r : RunC) (q : F2 → St → (List AV → Option (AV × St)) → Option (AV × St)) (call : CallF) (args : List AV) (st : St) : Option (AV × St) :=
  Bool.rec (motive := fun _ => Option (AV × St)) none (fnK q (r call (put args topF2) st)) (Nat.ble args.length lim)

def fnC (P : Program) (hmix : P.follows .mixedOrders = true) (G X f : Nat) : FnC P G f :=
  match hfn : P.funcs[f]? with
  | none => ⟨fun _ _ _ => none, fun call hc args st v st' h => by cases h⟩
  | some fn => match hbody : fn.body with
    | none => ⟨fun _ _ _ => none, fun call hc args st v st' h => by cases h⟩
    | some c => match hcond : (!(fn.name == "runtime.NumGoroutine") && Nat.ble fn.ntmps 512) with
      | false => ⟨fun _ _ _ => none, fun call hc args st v st' h => by cases h⟩
      | true => match codeC P ⟨G, fn.ntmps, X⟩ hmix c, resC P ⟨G, fn.ntmps, X⟩ fn.results.toList with
        | ⟨r, hr⟩, ⟨q, hq⟩ => ⟨fnR (Nat.min fn.ntmps 24) (argsQ (Nat.min fn.ntmps 24) 0).run r q, fun call hc args st v st' h ρ w cargs hR hG hA => by
          simp only [Bool.and_eq_true, Bool.not_eq_true', ble_iff] at hcond
          refine ⟨fun w => enters_run hfn hcond.1 hbody cargs w, ?_⟩
          unfold fnR at h
          cases hle : Nat.ble args.length (Nat.min fn.ntmps 24) with
          | false => rw [hle] at h; cases h
          | true =>
            rw [hle] at h
            have hle0 := ble_iff.1 hle
            rw [(argsQ (Nat.min fn.ntmps 24) 0).ok args topF2 hle0] at h
            have hle : args.length ≤ fn.ntmps := Nat.le_trans hle0 (Nat.min_le_left _ _)
            have hF := argsN_QF (X := X) hA hle hcond.2
            have key : ∀ ex f1 st1, r call (argsN args 0 topF2) st = RX.of ex f1 st1 → (ex = .normal ∨ ex = .ret) → q f1 st1 (oneK st1) = some (v, st') →
                Calls P f cargs w fun e w' => ∃ vc, e = .returned vc ∧ ∃ ρ', VR ρ' v vc ∧ Good ρ st w ρ' st' w' := by
              intro ex f1 st1 he hex hq1
              obtain ⟨l, h1, h2⟩ := hq f1 st1 _ _ hq1
              simp only [oneK, Option.some.injEq, Prod.mk.injEq] at h1
              obtain ⟨rfl, rfl⟩ := h1
              refine callsIn_wide.1 (callsIn_of_wp (F := Fence.wide) (n := 0) hfn hbody trivial ?_)
              refine wpIn_mono (show c.wpIn Fence.wide 0 P _ _ w from hr call hc _ st ex f1 st1 he ρ { tmps := cargs ++ Array.replicate (fn.ntmps - cargs.size) undef, defers := [] } w hF hR hG none) ?_
              rintro e a' w' ⟨rfl, ρ', hF', hg, hd⟩
              obtain ⟨vs, g1, g2⟩ := h2 ρ' a'.tmps w' hF' hg.rel (hG.ext hg.ext)
              have hrun : (results fn a'.tmps).run P w' = .ok (if h : vs.toArray.size = 1 then vs.toArray[0] else .tuple vs.toArray) w' := by
                rw [results_eq, Array.mapM_eq_mapM_toList]
                simp only [Sem.run_bind, Sem.run_map, g2, Sem.run_pure, Result.andThen_ok]
              rcases hex with rfl | rfl
              · exact ⟨hd, _, hrun, _, rfl, ρ', oneA_sound _ _ g1, hg⟩
              · exact ⟨hd, _, hrun, _, rfl, ρ', oneA_sound _ _ g1, hg⟩
            have h : fnK q (r call (argsN args 0 topF2) st) = some (v, st') := h
            cases he : r call (argsN args 0 topF2) st with
            | no => rw [he] at h; cases h
            | nrm f1 st1 => rw [he] at h; exact key .normal f1 st1 he (.inl rfl) h
            | ret f1 st1 => rw [he] at h; exact key .ret f1 st1 he (.inr rfl) h
            | ext j f1 st1 => rw [he] at h; cases h⟩

/-- a list of pairs, looked through -/
def lookN (l : List (Nat × Nat)) (f : Nat) : Nat := List.rec (motive := fun _ => Nat) 0 (fun p _ ih => Prod.rec (motive := fun _ => Nat) (fun a b => Bool.rec (motive := fun _ => Nat) ih b (Nat.beq a f)) p) l

/-! ### Rounds of a range over a function, compiled -/
def isLoopC : Code → Bool
  | .loop _ => true
  | _ => false
def outQ (S : Sta) (ds : List DA) (r : RX) : Option (Ex × Fr × St) :=
  RX.rec (motive := fun _ => Option (Ex × Fr × St)) none (fun f st => some (.normal, ⟨S.lim, 9, treeQ S f 9 0 1, ds⟩, st)) (fun f st => some (.ret, ⟨S.lim, 9, treeQ S f 9 0 1, ds⟩, st))
    (fun j f st => some (.exit j, ⟨S.lim, 9, treeQ S f 9 0 1, ds⟩, st)) r
def evQ (P : Program) (hmix : P.follows .mixedOrders = true) (G : Nat) (R : Nat → Nat) (call : CallF) : EvF := fun _ c fr st =>
  match fr with
  | ⟨n, _, t, ds⟩ => Bool.rec (motive := fun _ => Option (Ex × Fr × St)) none (outQ ⟨G, n, R n⟩ ds ((codeC P ⟨G, n, R n⟩ hmix c).run call (f2of t) st)) (Nat.ble n 512 && !isLoopC c)

theorem evQ_ok {P : Program} {hmix : P.follows .mixedOrders = true} {G : Nat} {R : Nat → Nat} {call : CallF} (hc : CallOk P G call) : EvOk P G (evQ P hmix G R call) := by
  intro roA c fr st ex fr' st' h ρ ro a w _ hF hR hG
  obtain ⟨n, d, t, ds⟩ := fr
  simp only [evQ] at h
  cases hb : (Nat.ble n 512 && !isLoopC c) with
  | false => rw [hb] at h; cases h
  | true =>
    rw [hb] at h
    simp only [Bool.and_eq_true, Bool.not_eq_true', ble_iff] at hb
    obtain ⟨hn, hl⟩ := hb
    have hQ : QF n (R n) ρ (f2of t) a.tmps := ⟨hn, hF.size, fun i hi _ => by rw [f2of_at t i (by omega)]; exact hF.val i hi⟩
    have key : ∀ ex1 f1 st1, (codeC P ⟨G, n, R n⟩ hmix c).run call (f2of t) st = RX.of ex1 f1 st1 → wpX ro P c (Post ρ st w ⟨n, d, t, ds⟩ a.defers ex1 ⟨n, 9, treeQ ⟨G, n, R n⟩ f1 9 0 1, ds⟩ st1) a w := by
      intro ex1 f1 st1 hr
      have hw := (codeC P ⟨G, n, R n⟩ hmix c).ok call hc (f2of t) st ex1 f1 st1 hr ρ a w hQ hR hG ro
      have hw2 : c.wpIn (fence ro) 0 P (Post ρ st w ⟨n, d, t, ds⟩ a.defers ex1 ⟨n, 9, treeQ ⟨G, n, R n⟩ f1 9 0 1, ds⟩ st1) a w := by
        refine wpIn_mono hw ?_
        rintro e a' w' ⟨rfl, ρ', g1, g2, g3⟩
        exact ⟨rfl, ρ', (frQ_FR (S := ⟨G, n, R n⟩) g1).off ds, g2, Defs.same rfl g3⟩
      cases c <;> first | exact hw2 | (cases hl; done)
    have h : outQ ⟨G, n, R n⟩ ds ((codeC P ⟨G, n, R n⟩ hmix c).run call (f2of t) st) = some (ex, fr', st') := h
    cases hr : (codeC P ⟨G, n, R n⟩ hmix c).run call (f2of t) st with
    | no => rw [hr] at h; cases h
    | nrm f1 st1 => rw [hr] at h; cases h; exact key .normal f1 _ hr
    | ret f1 st1 => rw [hr] at h; cases h; exact key .ret f1 _ hr
    | ext j f1 st1 => rw [hr] at h; cases h; exact key (.exit j) f1 _ hr

/-- one way, or else the other -/
def evB (x y : EvF) : EvF := fun ro c fr st => match x ro c fr st with
  | some r => some r
  | none => y ro c fr st
theorem evB_ok {P : Program} {G : Nat} {x y : EvF} (hx : EvOk P G x) (hy : EvOk P G y) : EvOk P G (evB x y) := by
  intro roA c fr st ex fr' st' h
  unfold evB at h
  split at h
  · rename_i r hr
    simp only [Option.some.injEq] at h
    subst h
    exact hx roA c fr st ex fr' st' hr
  · exact hy roA c fr st ex fr' st' h

/-- what a run is told: the temporaries of each function that live in one region alone; the functions that are to be run in the elder way; the like of rounds, by the size of their frames -/
structure Hint where
  X : FuncId → Nat
  slow : Nat
  R : Nat → Nat := fun _ => 0

/-- a function's call, behind what is known: in the quick way, or in the elder -/
def callF2 (P : Program) (hmix : P.follows .mixedOrders = true) (G : Nat) (H : Hint) (ih : CallF) (f : FuncId) (args : List AV) (st : St) : Option (AV × St) :=
  Bool.rec (motive := fun _ => Option (AV × St)) ((fnC P hmix G (H.X f) f).run ih args st) (funA P G (evN P G (fun f args st => ih (.func f) args st) 4000) f args st) (Nat.testBit H.slow f)
def callF1 (P : Program) (hmix : P.follows .mixedOrders = true) (G : Nat) (ext : ExtF) (H : Hint) (ih : CallF) (f : FuncId) (args : List AV) (st : St) : Option (AV × St) :=
  Option.rec (motive := fun _ => Option (AV × St)) (callF2 P hmix G H ih f args st) (fun r => some r) (ext f args st)
def callY (P : Program) (hmix : P.follows .mixedOrders = true) (G : Nat) (H : Hint) (ih : CallF) (i : Nat) (args : List AV) (st : St) : Option (AV × St) :=
  roundA (evB (evQ P hmix G H.R ih) (evN P G (fun f args st => ih (.func f) args st) 4000)) i args st
def stepQ (P : Program) (hmix : P.follows .mixedOrders = true) (G : Nat) (ext : ExtF) (H : Hint) (ih : CallF) : CallF := fun k args st =>
  Fk.rec (motive := fun _ => Option (AV × St)) (fun f => callF1 P hmix G ext H ih f args st) (fun i => callY P hmix G H ih i args st) k
def callQ (P : Program) (hmix : P.follows .mixedOrders = true) (G : Nat) (ext : ExtF) (H : Hint) (n : Nat) : CallF :=
  Nat.rec (motive := fun _ => CallF) (fun _ _ _ => none) (fun _ ih => stepQ P hmix G ext H ih) n

theorem callQ_ok {P : Program} {hmix : P.follows .mixedOrders = true} {G : Nat} {ext : ExtF} (hext : ExtOk P G ext) (H : Hint) : ∀ n, CallOk P G (callQ P hmix G ext H n)
  | 0 => fun _ _ _ _ _ h => by cases h
  | n + 1 => by
    have ih := callQ_ok (hmix := hmix) hext H n
    have hx : ExtOk P G (fun f args st => callQ P hmix G ext H n (.func f) args st) := fun f args st v st' h ρ w cargs hR hG hA => ih (.func f) args st v st' h ρ w cargs hR hG hA
    intro k args st v st' h ρ w cargs hR hG hA
    cases k with
    | func f =>
      have h : callF1 P hmix G ext H (callQ P hmix G ext H n) f args st = some (v, st') := h
      unfold callF1 at h
      cases he : ext f args st with
      | some r =>
        rw [he] at h
        have h : some r = some (v, st') := h
        simp only [Option.some.injEq] at h
        subst h
        exact hext f args st v st' he ρ w cargs hR hG hA
      | none =>
        rw [he] at h
        have h : callF2 P hmix G H (callQ P hmix G ext H n) f args st = some (v, st') := h
        unfold callF2 at h
        cases hs : Nat.testBit H.slow f with
        | true =>
          rw [hs] at h
          exact .inl (funA_sound (evN_sound hx hmix 4000) h hR hG hA)
        | false =>
          rw [hs] at h
          exact .inl ((fnC P hmix G (H.X f) f).ok _ ih args st v st' h ρ w cargs hR hG hA)
    | yield i =>
      have h : callY P hmix G H (callQ P hmix G ext H n) i args st = some (v, st') := h
      exact round_sound (evB_ok (evQ_ok ih) (evN_sound hx hmix 4000)) h hR hG hA

/-- what the quicker evaluator reckons of a call that returns true, every call of such arguments does -/
theorem closed_callsQ {P : Program} {ext : ExtF} (H : Hint) (G dep fuel f : Nat) (hext : ExtOk P G ext) (hmix : P.follows .mixedOrders = true) (hG : Nat.ble G (2 ^ dep) = true) (cargs : Array Value) (args : List AV) (hargs : VRs (renG G) args cargs.toList)
    (hent : enters P f = true) (h : isTrue (callQ P hmix G ext H fuel (.func f) args (St.init G dep)) = true) (w : World) :
    Calls P f cargs w fun e w' => e = .returned (.bool true) ∧ Below w.heap.size w w' := by
  unfold isTrue at h
  split at h
  · rename_i st' he
    rcases callQ_ok hext H fuel (.func f) _ _ _ _ he (renG G) w cargs (Rel.init G dep (Nat.le_of_ble_eq_true hG) w) (Glob.init G) hargs with ⟨_, hc⟩ | ⟨z, w', h1, _⟩
    · refine hc.mono ?_
      rintro e w' ⟨vc, rfl, ρ', hv, hg⟩
      cases hv
      refine ⟨rfl, hg.os, hg.tape, hg.output, hg.size, fun b hb => hg.kept b hb ?_⟩
      intro i L _ hw
      simp only [St.init, T.get_full] at hw
      cases hw
    · rw [enters_spec hent] at h1; cases h1
  · cases h

end
end Go.Ev

