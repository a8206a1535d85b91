/-
  A quicker evaluator: code, compiled.
-/
import Derived.Test.YtecnddogdiikiaaGreatQdr
namespace Go.Ev
open Go
noncomputable section

/-- how code is left -/
inductive RX where
  | no
  | nrm (f : F2) (st : St)
  | ret (f : F2) (st : St)
  | ext (j : Nat) (f : F2) (st : St)

def RX.of : Ex → F2 → St → RX
  | .normal, f, st => .nrm f st
  | .ret, f, st => .ret f st
  | .exit j, f, st => .ext j f st

abbrev RunC := CallF → F2 → St → RX

def QPost (S : Sta) (ρ : Ren) (st : St) (w : World) (D : List Deferred) (ex : Ex) (f' : F2) (st' : St) : Exit → Act → World → Prop :=
  fun e a' w' => e = ex.toExit ∧ ∃ ρ', QF S.lim S.X ρ' f' a'.tmps ∧ Good ρ st w ρ' st' w' ∧ a'.defers = D

def CodeOk (P : Program) (S : Sta) (c : Code) (run : RunC) : Prop :=
  ∀ call, CallOk P S.G call → ∀ f st ex f' st', run call f st = RX.of ex f' st' → ∀ ρ (a : Act) w, QF S.lim S.X ρ f a.tmps → Rel ρ st w → Glob ρ S.G → ∀ ro : Option Nat,
    c.wpIn (fence ro) 0 P (QPost S ρ st w a.defers ex f' st') a w

structure CodeC (P : Program) (S : Sta) (c : Code) where
  run : RunC
  ok : CodeOk P S c run

theorem RX.of_inj {ex ex' : Ex} {f f' : F2} {st st' : St} (h : RX.of ex f st = RX.of ex' f' st') : ex = ex' ∧ f = f' ∧ st = st' := by
  cases ex <;> cases ex' <;> simp_all [RX.of]
theorem RX.of_ne {ex : Ex} {f : F2} {st : St} : RX.no ≠ RX.of ex f st := by cases ex <;> simp [RX.of]

def drawK (S : Sta) (r : Option (Fr × St)) : RX := match r with
  | some (⟨n, _, t, _⟩, st) => Bool.rec (motive := fun _ => RX) .no (.nrm (f2of t) st) (Nat.beq n S.lim)
  | none => .no
def drawR (P : Program) (S : Sta) (ops : Array Oper) (call : CallF) (f : F2) (st : St) : RX := drawK S (evDraw P S.G call ops (frQ S f) st)

/-- the quick way, as far as it goes -/
def draw1K (r : RR) : RX := RR.rec (motive := fun _ => RX) .no (fun f' st' => .nrm f' st') r
def draw1X (r : CallF → F2 → St → RR) (call : CallF) (f : F2) (st : St) : RX := draw1K (r call f st)

theorem draw_QF {P : Program} {S : Sta} {hmix : P.follows .mixedOrders = true} {id : Nat} {ops : Array Oper} {call : CallF} (hc : CallOk P S.G call) {f f' : F2} {st st' : St} {fr' : Fr}
    (h : evDraw P S.G call ops (frQ S f) st = some (fr', st')) (h1 : fr'.lim = S.lim) (h2 : ∀ t, t < S.lim → S.X.testBit t = false → fr'.get t = f'.at t)
    {ρ : Ren} {a : Act} {w : World} (hF : QF S.lim S.X ρ f a.tmps) (hR : Rel ρ st w) (hG : Glob ρ S.G) (ro : Option Nat) :
    (Code.region id ops true).wpIn (fence ro) 0 P (QPost S ρ st w a.defers .normal f' st') a w :=
  evDraw_sound hc hmix h (frQ_FR hF) hR hG (fun ρ' a' w' g1 g2 g3 => ⟨rfl, ρ', ⟨hF.le, by rw [← h1]; exact g1.size, fun i hi hx => by
    have := g1.get i
    rw [h2 i hi hx] at this
    exact this⟩, g2, g3⟩)

def drawSlow (P : Program) (S : Sta) (hmix : P.follows .mixedOrders = true) (id : Nat) (ops : Array Oper) : CodeC P S (.region id ops true) :=
  ⟨drawR P S ops, fun call hc f st ex f' st' h ρ a w hF hR hG ro => by
      have h : drawK S (evDraw P S.G call ops (frQ S f) st) = RX.of ex f' st' := h
      cases h1 : evDraw P S.G call ops (frQ S f) st with
      | none => rw [h1] at h; exact absurd h RX.of_ne
      | some p =>
        obtain ⟨⟨n, d, t, ds⟩, st1⟩ := p
        rw [h1] at h
        simp only [drawK] at h
        cases hb : Nat.beq n S.lim with
        | false => rw [hb] at h; exact absurd h RX.of_ne
        | true =>
          rw [hb] at h
          obtain ⟨rfl, rfl, rfl⟩ := RX.of_inj (ex := .normal) h
          have hn := beq_iff.1 hb
          subst hn
          refine evDraw_sound hc hmix h1 (frQ_FR hF) hR hG (fun ρ' a' w' g1 g2 g3 => ⟨rfl, ρ', ⟨hF.le, g1.size, fun i hi _ => ?_⟩, g2, g3⟩)
          have := hF.le
          rw [f2of_at t i (by omega)]
          exact g1.val i hi⟩

def drawQuick (P : Program) (S : Sta) (hmix : P.follows .mixedOrders = true) (id : Nat) (ops : Array Oper) (D : DrawC P S ops) : CodeC P S (.region id ops true) :=
  match D with
  | ⟨r, hr⟩ => ⟨draw1X r, fun call hc f st ex f' st' h ρ a w hF hR hG ro => by
      have h : draw1K (r call f st) = RX.of ex f' st' := h
      cases h1 : r call f st with
      | no => rw [h1] at h; exact absurd h RX.of_ne
      | ok f1 st1 =>
        rw [h1] at h
        obtain ⟨rfl, rfl, rfl⟩ := RX.of_inj (ex := .normal) h
        obtain ⟨fr', e1, e2, e3⟩ := hr call f st f1 st1 h1 hF.le hR.lt
        exact draw_QF (hmix := hmix) hc e1 e2 e3 hF hR hG ro⟩

def drawC (P : Program) (S : Sta) (hmix : P.follows .mixedOrders = true) (id : Nat) (ops : Array Oper) : CodeC P S (.region id ops true) :=
  match hT : drawT P ops with
  | some (0, ms) => match dFits P (heavyAt P ops.toList 0) (ms.getD (heavyAt P ops.toList 0) 0) ops.toList ms 0 with
    | true => drawQuick P S hmix id ops (draw1C P S ops ms hT (heavyAt P ops.toList 0) (ms.getD (heavyAt P ops.toList 0) 0))
    | false => drawSlow P S hmix id ops
  | _ => drawSlow P S hmix id ops

/-! ### The parts of code -/
def regR (r : Rn) (call : CallF) (f : F2) (st : St) : RX := RR.rec (motive := fun _ => RX) .no (fun f' st' => .nrm f' st') (r call f .nil st)
def RX.thn (r : RX) (k : F2 → St → RX) : RX := RX.rec (motive := fun _ => (F2 → St → RX) → RX) (fun _ => .no) (fun f st k => k f st) (fun f st _ => .ret f st) (fun j f st _ => .ext j f st) r k
def seqR (a b : RunC) (call : CallF) (f : F2) (st : St) : RX := RX.thn (a call f st) (fun f' st' => b call f' st')
def blockK (id : Nat) (r : RX) : RX := RX.rec (motive := fun _ => Nat → RX) (fun _ => .no) (fun f st _ => .nrm f st) (fun f st _ => .ret f st) (fun j f st id => Bool.rec (motive := fun _ => RX) (.ext j f st) (.nrm f st) (Nat.beq j id)) r id
def blockR (id : Nat) (c : RunC) (call : CallF) (f : F2) (st : St) : RX := blockK id (c call f st)
def boolK (v : AV) (x y : RX) : RX :=
  AV.rec (motive_1 := fun _ => RX → RX → RX) (motive_2 := fun _ => Unit)
    (fun _ _ => .no) (fun b x y => Bool.rec (motive := fun _ => RX) y x b) (fun _ _ _ _ => .no) (fun _ _ _ _ => .no) (fun _ _ => .no) (fun _ _ _ _ => .no) (fun _ _ => .no)
    (fun _ _ _ _ _ _ _ => .no) (fun _ _ => .no) (fun _ _ _ => .no) (fun _ _ _ _ _ _ _ => .no) (fun _ _ => .no) (fun _ _ _ => .no) (fun _ _ _ _ _ => .no)
    (fun _ _ => .no) (fun _ _ _ _ => .no) (fun _ _ _ _ => .no) () (fun _ _ _ _ => ()) v x y
def condR (g : F2 → LS → AV) (a b : RunC) (call : CallF) (f : F2) (st : St) : RX := boolK (g f .nil) (a call f st) (b call f st)
def loopN (c : RunC) (n : Nat) : RunC := Nat.rec (motive := fun _ => RunC) (fun _ _ _ => .no) (fun _ ih call f st => RX.thn (c call f st) (fun f' st' => ih call f' st')) n
def loopR (c : RunC) : RunC := loopN c 1000000
def skipR : RunC := fun _ f st => .nrm f st
def retR : RunC := fun _ f st => .ret f st
def exitR (id : Nat) : RunC := fun _ f st => .ext id f st
def noR : RunC := fun _ _ _ => .no

section
variable {P : Program} {S : Sta}

theorem loopN_ok {c : Code} {r : RunC} (hr : CodeOk P S c r) {call : CallF} (hc : CallOk P S.G call) : ∀ (n : Nat) f st ex f' st', loopN r n call f st = RX.of ex f' st' → ∀ ρ (a : Act) w, QF S.lim S.X ρ f a.tmps → Rel ρ st w → Glob ρ S.G → ∀ ro : Option Nat,
    ∀ (b : Frame) (k : List Item) (cs : List Frame), b.roundOf = ro → ∃ e a' w', QPost S ρ st w a.defers ex f' st' e a' w' ∧ ArrivesIn (Machine.fenced P (fence ro)) P (lone (b.atR a (.code c :: .inLoop c :: k)) cs w) b k cs e a' w' := by
  intro n
  induction n with
  | zero => intro f st ex f' st' h; exact absurd h RX.of_ne
  | succ n ih =>
    intro f st ex f' st' h ρ a w hF hR hG ro b k cs hbro
    have h : RX.thn (r call f st) (fun f' st' => loopN r n call f' st') = RX.of ex f' st' := h
    cases h1 : r call f st with
    | no => rw [h1] at h; exact absurd h RX.of_ne
    | nrm f1 st1 =>
      rw [h1] at h
      obtain ⟨e, a1, w1, ⟨rfl, ρ1, hF1, hg1, hd1⟩, harr⟩ := hr call hc f st .normal f1 st1 h1 ρ a w hF hR hG ro b (.inLoop c :: k) cs hbro trivial (room_fence _ _)
      obtain ⟨e, a2, w2, ⟨rfl, ρ2, hF2, hg2, hd2⟩, harr2⟩ := ih f1 st1 ex f' st' h ρ1 a1 w1 hF1 hg1.rel (hG.ext hg1.ext) ro b k cs hbro
      exact ⟨_, a2, w2, ⟨rfl, ρ2, hF2, hg1.trans hg2, hd2.trans hd1⟩, .of_steps (StepsIn.trans harr (.one (fenced_calm (n := 0) trivial (room_fence _ _) rfl) stepR_inLoop)) harr2⟩
    | ret f1 st1 =>
      rw [h1] at h
      obtain ⟨rfl, rfl, rfl⟩ := RX.of_inj (ex := .ret) (f := f1) (st := st1) h
      obtain ⟨e, a1, w1, hq, harr⟩ := hr call hc f st .ret f1 st1 h1 ρ a w hF hR hG ro b (.inLoop c :: k) cs hbro trivial (room_fence _ _)
      have he := hq.1
      subst he
      exact ⟨_, a1, w1, hq, .pass (x := .inLoop c) rfl (fun _ _ => .inl (by simp [Ex.toExit])) harr⟩
    | ext j f1 st1 =>
      rw [h1] at h
      obtain ⟨rfl, rfl, rfl⟩ := RX.of_inj (ex := .exit j) (f := f1) (st := st1) h
      obtain ⟨e, a1, w1, hq, harr⟩ := hr call hc f st (.exit j) f1 st1 h1 ρ a w hF hR hG ro b (.inLoop c :: k) cs hbro trivial (room_fence _ _)
      have he := hq.1
      subst he
      exact ⟨_, a1, w1, hq, .pass (x := .inLoop c) rfl (fun _ _ => .inl (by simp [Ex.toExit])) harr⟩

theorem boolK_ok {v : AV} {x y : RX} {ex : Ex} {f : F2} {st : St} (h : boolK v x y = RX.of ex f st) : (v = .bool true ∧ x = RX.of ex f st) ∨ (v = .bool false ∧ y = RX.of ex f st) := by
  cases v <;> first | exact absurd h RX.of_ne | skip
  rename_i b
  cases b
  · exact .inr ⟨rfl, h⟩
  · exact .inl ⟨rfl, h⟩

def codeC (P : Program) (S : Sta) (hmix : P.follows .mixedOrders = true) : (c : Code) → CodeC P S c
  | .skip => ⟨skipR, fun call hc f st ex f' st' h ρ a w hF hR hG ro => by
      obtain ⟨rfl, rfl, rfl⟩ := RX.of_inj (ex := .normal) h
      exact wpIn_skip ⟨rfl, ρ, hF, .refl hR, rfl⟩⟩
  | .label l => ⟨skipR, fun call hc f st ex f' st' h ρ a w hF hR hG ro => by
      obtain ⟨rfl, rfl, rfl⟩ := RX.of_inj (ex := .normal) h
      exact wpIn_label ⟨rfl, ρ, hF, .refl hR, rfl⟩⟩
  | .ret => ⟨retR, fun call hc f st ex f' st' h ρ a w hF hR hG ro => by
      obtain ⟨rfl, rfl, rfl⟩ := RX.of_inj (ex := .ret) h
      exact wpIn_ret ⟨rfl, ρ, hF, .refl hR, rfl⟩⟩
  | .exit id => ⟨exitR id, fun call hc f st ex f' st' h ρ a w hF hR hG ro => by
      obtain ⟨rfl, rfl, rfl⟩ := RX.of_inj (ex := .exit id) h
      exact wpIn_exit ⟨rfl, ρ, hF, .refl hR, rfl⟩⟩
  | .scope c => match codeC P S hmix c with
    | ⟨r, hr⟩ => ⟨r, fun call hc f st ex f' st' h ρ a w hF hR hG ro => by
      refine wpIn_scope_straight ?_ (hr call hc f st ex f' st' h ρ a w hF hR hG ro)
      rintro l a' w' ⟨he, _⟩
      cases ex <;> cases he⟩
  | .region id ops false => match listC P S ops ops.toList [] with
    | ⟨r, hr⟩ => ⟨regR r, fun call hc f st ex f' st' h ρ a w hF hR hG ro => by
      have h : RR.rec (motive := fun _ => RX) .no (fun f' st' => .nrm f' st') (r call f .nil st) = RX.of ex f' st' := h
      cases h1 : r call f .nil st with
      | no => rw [h1] at h; exact absurd h RX.of_ne
      | ok f1 st1 =>
        rw [h1] at h
        obtain ⟨rfl, rfl, rfl⟩ := RX.of_inj (ex := .normal) h
        exact wpIn_region_list (hr call hc f .nil st f1 st1 h1 ρ a w hF (LR.nil _ _ _ _) hR hG ro _ (fun ρ' a' w' g1 g2 g3 => ⟨rfl, ρ', g1, g2, g3⟩))⟩
  | .region id ops true => drawC P S hmix id ops
  | .seq x y => match codeC P S hmix x, codeC P S hmix y with
    | ⟨r1, h1⟩, ⟨r2, h2⟩ => ⟨seqR r1 r2, fun call hc f st ex f' st' h ρ a w hF hR hG ro => by
      have h : RX.thn (r1 call f st) (fun f' st' => r2 call f' st') = RX.of ex f' st' := h
      cases e1 : r1 call f st with
      | no => rw [e1] at h; exact absurd h RX.of_ne
      | nrm f1 st1 =>
        rw [e1] at h
        refine wpIn_seq (wpIn_mono (h1 call hc f st .normal f1 st1 e1 ρ a w hF hR hG ro) ?_)
        rintro e a1 w1 ⟨rfl, ρ1, hF1, hg1, hd1⟩
        refine wpIn_mono (h2 call hc f1 st1 ex f' st' h ρ1 a1 w1 hF1 hg1.rel (hG.ext hg1.ext) ro) ?_
        rintro e a2 w2 ⟨rfl, ρ2, hF2, hg2, hd2⟩
        exact ⟨rfl, ρ2, hF2, hg1.trans hg2, hd2.trans hd1⟩
      | ret f1 st1 =>
        rw [e1] at h
        obtain ⟨rfl, rfl, rfl⟩ := RX.of_inj (ex := .ret) h
        refine wpIn_seq (wpIn_mono (h1 call hc f st .ret f1 st1 e1 ρ a w hF hR hG ro) ?_)
        rintro e a1 w1 hq
        have he := hq.1
        subst he
        exact hq
      | ext j f1 st1 =>
        rw [e1] at h
        obtain ⟨rfl, rfl, rfl⟩ := RX.of_inj (ex := .exit j) h
        refine wpIn_seq (wpIn_mono (h1 call hc f st (.exit j) f1 st1 e1 ρ a w hF hR hG ro) ?_)
        rintro e a1 w1 hq
        have he := hq.1
        subst he
        exact hq⟩
  | .cond c x y => match getC S [] c, codeC P S hmix x, codeC P S hmix y with
    | ⟨g, hg⟩, ⟨r1, h1⟩, ⟨r2, h2⟩ => ⟨condR g r1 r2, fun call hc f st ex f' st' h ρ a w hF hR hG ro => by
      have hv := valQ_VR (E := []) (L := .nil) hF (LR.nil _ _ _ _) hG c
      rw [← hg] at hv
      rcases boolK_ok h with ⟨e1, e2⟩ | ⟨e1, e2⟩
      · rw [e1] at hv
        exact wpIn_cond_true (by generalize a.eval c = z at hv; cases hv; rfl) (h1 call hc f st ex f' st' e2 ρ a w hF hR hG ro)
      · rw [e1] at hv
        exact wpIn_cond_false (by generalize a.eval c = z at hv; cases hv; rfl) (h2 call hc f st ex f' st' e2 ρ a w hF hR hG ro)⟩
  | .block id c => match codeC P S hmix c with
    | ⟨r, hr⟩ => ⟨blockR id r, fun call hc f st ex f' st' h ρ a w hF hR hG ro => by
      have h : blockK id (r call f st) = RX.of ex f' st' := h
      cases e1 : r call f st with
      | no => rw [e1] at h; exact absurd h RX.of_ne
      | nrm f1 st1 =>
        rw [e1] at h
        obtain ⟨rfl, rfl, rfl⟩ := RX.of_inj (ex := .normal) h
        refine wpIn_block (wpIn_mono (hr call hc f st .normal f1 st1 e1 ρ a w hF hR hG ro) ?_)
        rintro e a1 w1 hq
        have he := hq.1
        subst he
        exact hq
      | ret f1 st1 =>
        rw [e1] at h
        obtain ⟨rfl, rfl, rfl⟩ := RX.of_inj (ex := .ret) h
        refine wpIn_block (wpIn_mono (hr call hc f st .ret f1 st1 e1 ρ a w hF hR hG ro) ?_)
        rintro e a1 w1 hq
        have he := hq.1
        subst he
        exact hq
      | ext j f1 st1 =>
        rw [e1] at h
        have h : Bool.rec (motive := fun _ => RX) (.ext j f1 st1) (.nrm f1 st1) (Nat.beq j id) = RX.of ex f' st' := h
        refine wpIn_block (wpIn_mono (hr call hc f st (.exit j) f1 st1 e1 ρ a w hF hR hG ro) ?_)
        rintro e a1 w1 ⟨rfl, hq⟩
        cases hj : Nat.beq j id with
        | true =>
          rw [hj] at h
          obtain ⟨rfl, rfl, rfl⟩ := RX.of_inj (ex := .normal) h
          simp only [Ex.toExit, Exit.inBlock, beq_iff.1 hj, if_true]
          exact ⟨rfl, hq⟩
        | false =>
          rw [hj] at h
          obtain ⟨rfl, rfl, rfl⟩ := RX.of_inj (ex := .exit j) h
          have : j ≠ id := fun e => by rw [beq_iff.2 e] at hj; cases hj
          simp only [Ex.toExit, Exit.inBlock, this, if_false]
          exact ⟨rfl, hq⟩⟩
  | .loop c => match codeC P S hmix c with
    | ⟨r, hr⟩ => ⟨loopR r, fun call hc f st ex f' st' h ρ a w hF hR hG ro => fun b k cs hro hb hrm => by
      obtain ⟨e, a', w', hq, harr⟩ := loopN_ok hr hc 1000000 f st ex f' st' h ρ a w hF hR hG ro b k cs hro
      exact ⟨e, a', w', hq, .of_steps (.one (fenced_calm hb hrm rfl) stepR_loop) harr⟩⟩
  | _ => ⟨noR, fun call hc f st ex f' st' h => absurd h RX.of_ne⟩

end
end
end Go.Ev
