/-
  slices.Sorted(maps.Keys(m)) at keys of kind int: what the evaluator makes of the two calls, given the contracts of the kit's shelf.
-/
import Derived.Test.YtdmnkhcddbjglaaGreatEvP
import Derived.Lib.SlKeysI
import Derived.Maps.Own
import Derived.Laws.AppendOwn
set_option linter.unusedVariables false
set_option linter.unusedSimpArgs false
namespace Go.Ev
open Go Go.RowKit
noncomputable section

/-- a block that lies there gets a name -/
theorem Good.named {ρ : Ren} {st : St} {w w' : World} (h : Rel ρ st w) (hb : Below w.heap.size w w') (hr : st.room = true) {L : Loc} (hL : w.heap.size ≤ L.b) {o : AO} {ob : Obj} (hob : w'.heap[L.b]? = some ob) (ho : ORel (ρ.set st.next L) L o ob) :
    Good ρ st w (ρ.set st.next L) (st.alloc o) w' := by
  have hn : st.next < 2 ^ st.dep := blt_iff.1 hr
  have hext : Ext ρ (ρ.set st.next L) := Ren.ext_set (h.fresh _ (Nat.le_refl _))
  have hget : ∀ j, j < st.next → (st.alloc o).heap.get j = st.heap.get j := fun j hj =>
    T.get_set_ne st.dep st.heap st.next j o h.ok hn (Nat.lt_trans hj hn) (by omega)
  have hgn : (st.alloc o).heap.get st.next = o := T.get_set_same st.heap st.next o
  have hold : ∀ j, j < st.next → ρ.set st.next L j = ρ j := fun j hj => Ren.set_ne (by omega)
  have hlt : ∀ j M, j < st.next → (st.heap.get j).live = true → ρ j = some M → M.b < w.heap.size := fun j M hj hl hM => h.lt_size hj hl hM
  refine ⟨hext, ⟨h.ok.set _ _, by show st.next + 1 ≤ 2 ^ st.dep; omega, ?_, ?_, ?_⟩, rfl, by show st.next ≤ st.next + 1; omega, hb.size, hb.os, hb.tape, hb.output, ?_, ?_, ?_, hold⟩
  · intro i hi
    have hi' : st.next + 1 ≤ i := hi
    rw [Ren.set_ne (by omega)]
    exact h.fresh i (by omega)
  · intro i hi hl
    have hi' : i < st.next + 1 := hi
    by_cases e : i = st.next
    · subst e
      exact ⟨L, ob, Ren.set_same _ _ _, hob, by rw [hgn]; exact ho⟩
    · rw [hget i (by omega)] at hl ⊢
      obtain ⟨M, om, hM, hom, hr⟩ := h.live i (by omega) hl
      refine ⟨M, om, hext _ _ hM, ?_, hr.ext hext⟩
      rw [hb.block _ (hlt i M (by omega) hl hM)]; exact hom
  · intro i j M N hi hj hne hl hjw hM hN
    have hi' : i < st.next + 1 := hi
    have hj' : j < st.next + 1 := hj
    by_cases e : i = st.next
    · subst e
      rw [hget j (by omega)] at hjw
      rw [hold j (by omega)] at hN
      rw [Ren.set_same] at hM; cases hM
      have := hlt j N (by omega) (AO.live_of_writable hjw) hN
      omega
    · rw [hget i (by omega)] at hl
      rw [hold i (by omega)] at hM
      by_cases e' : j = st.next
      · subst e'
        rw [Ren.set_same] at hN; cases hN
        have := hlt i M (by omega) hl hM
        omega
      · rw [hget j (by omega)] at hjw
        rw [hold j (by omega)] at hN
        exact h.inj i j M N (by omega) (by omega) hne hl hjw hM hN
  · intro b hb' _
    exact hb.block b hb'
  · intro i M hi hw hρ hLb
    have hi' : i < st.next + 1 := hi
    by_cases e : i = st.next
    · subst e; rw [Ren.set_same] at hρ; cases hρ; omega
    · rw [hget i (by omega)] at hw ⊢
      rw [hold i (by omega)] at hρ
      exact ⟨i, M, by omega, hw, hρ, rfl, id⟩
  · intro i hi hd
    rw [hget i hi]; exact hd

theorem Good.below {ρ : Ren} {st : St} {w w' : World} (h : Rel ρ st w) (hb : Below w.heap.size w w') : Good ρ st w ρ st w' := by
  refine ⟨.refl ρ, ⟨h.ok, h.lt, h.fresh, ?_, h.inj⟩, rfl, Nat.le_refl _, hb.size, hb.os, hb.tape, hb.output, fun b hb' _ => hb.block b hb', fun i L a b c _ => ⟨i, L, a, b, c, rfl, id⟩, fun _ _ h => h, fun _ _ => rfl⟩
  intro i hi hl
  obtain ⟨M, om, hM, hom, hr⟩ := h.live i hi hl
  exact ⟨M, om, hM, by rw [hb.block _ (h.lt_size hi hl hM)]; exact hom, hr⟩

/-! ### The keys, sorted -/
def insI (x : Int) : List Int → List Int
  | [] => [x]
  | y :: l => bif ltA y x then y :: insI x l else x :: y :: l

def sortI : List Int → List Int
  | [] => []
  | x :: l => insI x (sortI l)

theorem insI_perm (x : Int) : ∀ l, (insI x l).Perm (x :: l)
  | [] => .refl _
  | y :: l => by
    simp only [insI]
    cases ltA y x with
    | true => exact (List.Perm.cons y (insI_perm x l)).trans (.swap x y l)
    | false => exact .refl _

theorem sortI_perm : ∀ l, (sortI l).Perm l
  | [] => .refl _
  | x :: l => (insI_perm x _).trans (.cons x (sortI_perm l))

theorem insI_sorted (x : Int) : ∀ l : List Int, l.Pairwise (· ≤ ·) → (insI x l).Pairwise (· ≤ ·)
  | [], _ => by simp [insI]
  | y :: l, h => by
    obtain ⟨h1, h2⟩ := List.pairwise_cons.1 h
    simp only [insI]
    cases hb : ltA y x with
    | true =>
      rw [ltA_eq] at hb
      have hlt := of_decide_eq_true hb
      refine List.pairwise_cons.2 ⟨?_, insI_sorted x l h2⟩
      intro z hz
      rcases List.mem_cons.1 ((insI_perm x l).mem_iff.1 hz) with rfl | hz
      · omega
      · exact h1 z hz
    | false =>
      rw [ltA_eq] at hb
      have hlt := of_decide_eq_false hb
      refine List.pairwise_cons.2 ⟨?_, h⟩
      intro z hz
      rcases List.mem_cons.1 hz with rfl | hz
      · omega
      · have := h1 z hz; omega

theorem sortI_sorted : ∀ l, (sortI l).Pairwise (· ≤ ·)
  | [] => .nil
  | x :: l => insI_sorted x _ (sortI_sorted l)

theorem sortI_eq {l ss : List Int} (h : ss.Perm l) : ss.mergeSort (fun x y => decide (x ≤ y)) = sortI l := by
  have tr : ∀ a b c : Int, leI a b = true → leI b c = true → leI a c = true := fun a b c h1 h2 => by simp only [leI, decide_eq_true_eq] at *; exact Int.le_trans h1 h2
  have to : ∀ a b : Int, (leI a b || leI b a) = true := fun a b => by simp only [leI, Bool.or_eq_true, decide_eq_true_eq]; exact Int.le_total a b
  refine List.Perm.eq_of_pairwise (le := fun a b => leI a b = true) (fun a b _ _ h1 h2 => ?_) (List.pairwise_mergeSort tr to ss) ?_ (((List.mergeSort_perm ss leI).trans h).trans (sortI_perm l).symm)
  · simp only [leI, decide_eq_true_eq] at h1 h2
    exact Int.le_antisymm h1 h2
  · exact (sortI_sorted l).imp (fun hab => by simpa [leI] using hab)

def inI64 (n : Int) : Bool := match n with
  | .ofNat m => Nat.ble m 9223372036854775807
  | .negSucc m => Nat.ble m 9223372036854775807

theorem inI64_wf {n : Int} (h : inI64 n = true) : (Lit.int .i64 n).wf = true := by
  unfold inI64 at h
  have h1 : IntKind.min .i64 = -9223372036854775808 := rfl
  have h2 : IntKind.max .i64 = 9223372036854775807 := rfl
  split at h
  · rename_i m
    have := Nat.le_of_ble_eq_true h
    simp only [Lit.wf, h1, h2, Bool.and_eq_true, decide_eq_true_eq, Int.ofNat_eq_natCast]
    omega
  · rename_i m
    have := Nat.le_of_ble_eq_true h
    simp only [Lit.wf, h1, h2, Bool.and_eq_true, decide_eq_true_eq, Int.negSucc_eq]
    omega

def keysI : List (AV × AV) → Option (List Int)
  | [] => some []
  | (.int .i64 n, _) :: l => bif inI64 n then match keysI l with
      | some r => some (n :: r)
      | none => none
    else none
  | _ => none

theorem keysI_sound {ρ : Ren} : ∀ (es : List (AV × AV)) (l : List Int) (ks : List Value), keysI es = some l → VRs ρ (es.map (·.1)) ks → ks = l.map encZ ∧ ∀ n ∈ l, (Lit.int .i64 n).wf = true
  | [], l, _, h, .nil => by
    simp only [keysI, Option.some.injEq] at h
    subst h
    simp
  | (k, v) :: es, l, _, h, .cons (v := u) (m := m) h1 h2 => by
    unfold keysI at h
    split at h
    · rename_i heq; cases heq
    · rename_i n a b heq
      cases heq
      obtain ⟨hb, h'⟩ := bif_some h
      split at h'
      · rename_i r hr
        simp only [Option.some.injEq] at h'
        subst h'
        obtain ⟨g1, g2⟩ := keysI_sound _ r m hr h2
        cases h1
        refine ⟨by rw [g1]; rfl, ?_⟩
        intro x hx
        rcases List.mem_cons.1 hx with rfl | hx
        · exact inI64_wf hb
        · exact g2 x hx
      · cases h'
    · cases h

/-- What the kit's shelf says of maps.Keys (fK, whose iterator is g, whose box is of type mt), and of slices.Sorted (fS) at keys of type kt. -/
structure KeysAt (P : Program) (fK fS g kt mt : Nat) : Prop where
  key : P.underlying kt = some (.int .i64)
  enterK : enters P fK = true
  enterS : enters P fS = true
  keys : ∀ (mb : Option Nat) (W : World), Calls P fK #[.map mb] W fun e w' => e = .returned (.func (.func g) #[] #[.pointer (some ⟨W.heap.size, 0, none⟩)]) ∧ w' = W.alloc (.cells #[.map mb] mt)
  sorted : ∀ (b nn : Nat) (D0 : DataW Unit) (R : Value → Option (DataW Unit × List MemPlace)) (w : World) (Bm : Nat), Bm < w.heap.size → w.cell? ⟨Bm, 0, none⟩ = some (.map (some b)) → w.ownsMap P kt R b nn D0 →
    Maps.size D0 ≤ maxLen → Maps.size D0 * 8 ≤ 140737488355328 → Calls P fS #[.func (.func g) #[] #[.pointer (some ⟨Bm, 0, none⟩)]] w fun e w' => ∃ (v : Value) (ss : List Int), e = .returned v ∧ ss.Perm (intKeys D0) ∧
      w'.ownsRow w.heap.size kt 1 v ss.length ((ss.mergeSort (fun x y => decide (x ≤ y))).map encZ) ∧ (v = .slice none 0 0 ↔ ss = []) ∧ Below w.heap.size w w'
  sorted0 : ∀ (w : World) (Bm : Nat), Bm < w.heap.size → w.cell? ⟨Bm, 0, none⟩ = some (.map none) → Calls P fS #[.func (.func g) #[] #[.pointer (some ⟨Bm, 0, none⟩)]] w fun e w' => e = .returned (.slice none 0 0) ∧ Below w.heap.size w w'

def sortedRow (l : List Int) (st : St) : Option (AV × St) :=
  match sortI l with
  | [] => some (.snil, st)
  | x :: r => match mkRow (.l ((x :: r).map (AV.int .i64))) with
    | some o => bif st.room && Nat.ble (Nat.succ r.length) 4294967296 then some (.slice st.top 0 (Nat.succ r.length) (Nat.succ r.length) 1, st.alloc o) else none
    | none => none

abbrev KeysT := List (FuncId × FuncId × FuncId)

def keysE : KeysT → ExtF
  | [], _, _, _ => none
  | (fK, fS, g) :: T, f, args, st => bif Nat.beq f fK then
      match args with
      | [m] => match m with
        | .map _ => bif st.room then some (.func (.func g) [] [.ptr st.top 0], st.alloc (.box m)) else none
        | .mnil => bif st.room then some (.func (.func g) [] [.ptr st.top 0], st.alloc (.box m)) else none
        | _ => none
      | _ => none
    else bif Nat.beq f fS then
      match args with
      | [.func (.func g') [] [.ptr i off]] => bif Nat.beq g' g then
          match (bif Nat.beq off 0 then st.obj i else .dead) with
          | .box .mnil => some (.snil, st)
          | .box (.map j) => match st.obj j with
            | .map es => match keysI es with
              | some l => sortedRow l st
              | none => none
            | _ => none
          | _ => none
        else keysE T f args st
      | _ => none
    else keysE T f args st

theorem map_inj_of {α β : Type} {f : α → β} (hf : ∀ {a b}, f a = f b → a = b) : ∀ {l m : List α}, l.map f = m.map f → l = m
  | [], [], _ => rfl
  | [], _ :: _, h => by simp at h
  | _ :: _, [], h => by simp at h
  | a :: l, b :: m, h => by
    simp only [List.map_cons, List.cons.injEq] at h
    rw [hf h.1, map_inj_of hf h.2]

theorem VRs_ints {ρ : Ren} : ∀ l : List Int, VRs ρ (l.map (AV.int .i64)) (l.map encZ)
  | [] => .nil
  | x :: l => .cons (.int .i64 x) (VRs_ints l)

theorem sortedRow_sound {P : Program} {fS kt : Nat} {ρ : Ren} {st st' : St} {w : World} {l : List Int} {v : AV} (h : sortedRow l st = some (v, st')) (hR : Rel ρ st w) {cargs : Array Value}
    (hc : (fun l' => l'.length ≤ 4294967296) l → Calls P fS cargs w fun e w' => ∃ (v : Value) (ss : List Int), e = .returned v ∧ ss.Perm l ∧
      w'.ownsRow w.heap.size kt 1 v ss.length ((ss.mergeSort (fun x y => decide (x ≤ y))).map encZ) ∧ (v = .slice none 0 0 ↔ ss = []) ∧ Below w.heap.size w w') :
    Calls P fS cargs w fun e w' => ∃ vc, e = .returned vc ∧ ∃ ρ', VR ρ' v vc ∧ Good ρ st w ρ' st' w' := by
  have hlen : (sortI l).length = l.length := (sortI_perm l).length_eq
  unfold sortedRow at h
  split at h
  · rename_i hs
    simp only [Option.some.injEq, Prod.mk.injEq] at h
    obtain ⟨rfl, rfl⟩ := h
    rw [hs] at hlen
    have hl0 : l = [] := List.eq_nil_of_length_eq_zero hlen.symm
    subst hl0
    refine (hc (by simp)).mono ?_
    rintro e w' ⟨v, ss, rfl, hp, hrow, hnil, hb⟩
    have hss : ss = [] := hp.eq_nil
    exact ⟨v, rfl, ρ, by rw [hnil.2 hss]; exact .snil, Good.below hR hb⟩
  · rename_i x r hs
    split at h
    · rename_i o ho
      obtain ⟨hcond, h'⟩ := bif_some h
      simp only [Bool.and_eq_true] at hcond
      obtain ⟨hroom, hle⟩ := hcond
      have hle := Nat.le_of_ble_eq_true hle
      simp only [Option.some.injEq, Prod.mk.injEq] at h'
      obtain ⟨rfl, rfl⟩ := h'
      rw [hs] at hlen
      simp only [List.length_cons] at hlen
      refine (hc (by simp only []; omega)).mono ?_
      rintro e w' ⟨v, ss, rfl, hp, hrow, hnil, hb⟩
      rw [sortI_eq hp, hs] at hrow
      have hsl : ss.length = r.length + 1 := by rw [hp.length_eq]; omega
      obtain ⟨_, hrow⟩ := hrow
      rcases hrow with ⟨_, h0⟩ | ⟨g, cap, cur, rfl, hbase, hgb, r1, r2, r3, r4⟩
      · omega
      · have htop : st.top = st.next := rfl
        rw [htop, hsl]
        refine ⟨_, rfl, ρ.set st.next ⟨g, 0, cap⟩, ?_, ?_⟩
        · refine .slice st.next 0 (Nat.succ r.length) (Nat.succ r.length) 1 cap ⟨g, 0, cap⟩ (Ren.set_same _ _ _) (by omega) (Nat.le_refl _) (by simp) (fun _ => ⟨by omega, by simp⟩)
        · refine Good.named (L := ⟨g, 0, cap⟩) hR hb hroom hbase hgb ?_
          refine mkRow_rel_at ho (vs := (x :: r).map encZ) (VRs_ints _) ?_ ?_ ?_ (free_none _) (fun _ _ => free_none _)
          · intro k v hk
            have hkl : k < (x :: r).length := by
              have := (List.getElem?_eq_some_iff.1 hk).1
              simpa using this
            rw [← r4] at hk
            rw [List.getElem?_take] at hk
            split at hk
            · simpa using hk
            · cases hk
          · simp only [List.length_map, List.length_cons]; omega
          · omega
    · cases h

theorem run_cell_box {ρ : Ren} {st : St} {w : World} (hR : Rel ρ st w) {i : Nat} {m : AV} (h : st.obj i = .box m) : ∃ L u, ρ i = some L ∧ L.sh = 0 ∧ L.b < w.heap.size ∧ w.cell? ⟨L.b, 0, none⟩ = some u ∧ VR ρ m u := by
  obtain ⟨hi, hg⟩ := St.obj_live (st := st) (i := i) (by rw [h]; rfl)
  rw [hg] at h
  obtain ⟨L, ob, hL, hob, hr⟩ := hR.live i hi (by rw [h]; rfl)
  rw [h] at hr
  obtain ⟨h0, C, e, fz, u, rfl, h1, h2⟩ := hr
  exact ⟨L, u, hL, h0, (Array.getElem?_eq_some_iff.1 hob).1, by rw [cell?_of_block hob]; exact h1, h2⟩

theorem keysE_ok {P : Program} {G : Nat} : ∀ {T : KeysT}, (∀ x ∈ T, ∃ kt mt, KeysAt P x.1 x.2.1 x.2.2 kt mt) → ExtOk P G (keysE T) := by
  intro T
  induction T with
  | nil => intro _ f args st v st' h; cases h
  | cons x T ih =>
    obtain ⟨fK, fS, g⟩ := x
    intro hT f args st v st' h ρ w cargs hR hG hA
    have hT' := ih (fun x hx => hT x (by simp [hx]))
    obtain ⟨kt, mt, K⟩ := hT (fK, fS, g) (by simp)
    simp only [] at K
    unfold keysE at h
    cases hfK : Nat.beq f fK with
    | true =>
      rw [hfK] at h
      simp only [cond_true] at h
      have := Nat.eq_of_beq_eq_true hfK
      subst this
      refine .inl ⟨enters_spec K.enterK cargs, ?_⟩
      obtain ⟨cl⟩ := cargs
      split at h
      · rename_i m
        cases hA with | cons hm hA =>
        cases hA
        have key : ∀ mb : Option Nat, VR ρ m (.map mb) → (bif st.room then some (AV.func (.func g) [] [.ptr st.top 0], st.alloc (.box m)) else none) = some (v, st') → Calls P f #[.map mb] w fun e w' => ∃ vc, e = .returned vc ∧ ∃ ρ', VR ρ' v vc ∧ Good ρ st w ρ' st' w' := by
          intro mb hmv h
          obtain ⟨hroom, h'⟩ := bif_some h
          simp only [Option.some.injEq, Prod.mk.injEq] at h'
          obtain ⟨rfl, rfl⟩ := h'
          refine (K.keys mb w).mono ?_
          rintro e w' ⟨rfl, rfl⟩
          have hg : Good ρ st w (ρ.set st.next ⟨w.heap.size, 0, 0⟩) (st.alloc (.box m)) (w.alloc (.cells #[.map mb] mt)) :=
            hR.alloc hroom ⟨rfl, #[.map mb], mt, (0, 0), .map mb, rfl, rfl, hmv.ext (Ren.ext_set (hR.fresh _ (Nat.le_refl _)))⟩
          refine ⟨_, rfl, _, ?_, hg⟩
          refine .func _ _ _ _ _ .nil (.cons ?_ .nil)
          exact .ptr st.next 0 ⟨w.heap.size, 0, 0⟩ (Ren.set_same _ _ _)
        split at h
        · cases hm with | map _ L hL => exact key (some L.b) (.map _ L hL) h
        · cases hm; exact key none .mnil h
        · cases h
      · cases h
    | false =>
      rw [hfK] at h
      simp only [cond_false] at h
      cases hfS : Nat.beq f fS with
      | false =>
        rw [hfS] at h
        exact hT' f args st v st' h ρ w cargs hR hG hA
      | true =>
        rw [hfS] at h
        simp only [cond_true] at h
        have := Nat.eq_of_beq_eq_true hfS
        subst this
        split at h
        · rename_i g' i off
          cases hgg : Nat.beq g' g with
          | false =>
            rw [hgg] at h
            exact hT' f _ st v st' h ρ w cargs hR hG hA
          | true =>
            rw [hgg] at h
            simp only [cond_true] at h
            have := Nat.eq_of_beq_eq_true hgg
            subst this
            refine .inl ⟨enters_spec K.enterS cargs, ?_⟩
            obtain ⟨cl⟩ := cargs
            cases hA with | cons hm hA =>
            cases hA
            cases hm with | func _ _ _ f' c' hf hc =>
            obtain ⟨fl⟩ := f'
            obtain ⟨cl'⟩ := c'
            cases hf
            cases hc with | cons hp hc =>
            cases hc
            cases hp with | ptr _ _ L hL =>
            split at h
            · rename_i hbox
              cases hoff : Nat.beq off 0 with
              | false => rw [hoff] at hbox; cases hbox
              | true =>
                rw [hoff] at hbox
                simp only [cond_true] at hbox
                have h0 := Nat.eq_of_beq_eq_true hoff
                subst h0
                simp only [Option.some.injEq, Prod.mk.injEq] at h
                obtain ⟨rfl, rfl⟩ := h
                obtain ⟨L', u, hL', hsh, hlt, hcell, hu⟩ := run_cell_box hR hbox
                rw [hL] at hL'; cases hL'
                cases hu
                have hat : L.at 0 = ⟨L.b, 0, none⟩ := by simp [Loc.at, hsh]
                rw [hat]
                refine (K.sorted0 w L.b hlt hcell).mono ?_
                rintro e w' ⟨rfl, hb⟩
                exact ⟨_, rfl, ρ, .snil, Good.below hR hb⟩
            · rename_i j hbox
              cases hoff : Nat.beq off 0 with
              | false => rw [hoff] at hbox; cases hbox
              | true =>
                rw [hoff] at hbox
                simp only [cond_true] at hbox
                have h0 := Nat.eq_of_beq_eq_true hoff
                subst h0
                obtain ⟨L', u, hL', hsh, hlt, hcell, hu⟩ := run_cell_box hR hbox
                rw [hL] at hL'; cases hL'
                cases hu with | map _ M hM =>
                have hat : L.at 0 = ⟨L.b, 0, none⟩ := by simp [Loc.at, hsh]
                rw [hat]
                split at h
                · rename_i es ho
                  split at h
                  · rename_i l hl
                    obtain ⟨_, _, M', E, c, hM', hob, hk, hv, hst⟩ := hR.mapAt ho
                    rw [hM] at hM'; cases hM'
                    obtain ⟨hkeys, hwf⟩ := keysI_sound es l _ hl hk
                    refine sortedRow_sound (kt := kt) h hR ?_
                    intro hlen
                    have hEl : E.size = l.length := by
                      have := congrArg List.length hkeys
                      simpa using this
                    let R : Value → Option (DataW Unit × List MemPlace) := fun _ => some (.lit (.bool true), [])
                    have hread : ∀ x ∈ E.toList, ∃ n, x.key = encZ n ∧ n ∈ l ∧ WideElems.rd P kt R x = some (.int .i64 n, .lit (.bool true)) := by
                      intro x hx
                      have : x.key ∈ l.map encZ := by rw [← hkeys]; exact List.mem_map_of_mem hx
                      obtain ⟨n, hn, he⟩ := List.mem_map.1 this
                      refine ⟨n, he.symm, hn, ?_⟩
                      have hkl : keyOf P kt x.key = some (.int .i64 n) := by
                        rw [← he]
                        simp [keyOf, K.key, mapKey, hwf n hn]
                      simp [WideElems.rd, hkl, R]
                    have hml : (4294967296 : Nat) ≤ maxLen := by decide
                    have hown : w.ownsMap P kt R M.b E.size (.map ((E.toList.map (WideElems.rg P kt R)).foldr DataW.insert [])) :=
                      ⟨E, c, hob, ⟨by have hlen' : l.length ≤ 4294967296 := hlen; omega, hst, fun x hx => by obtain ⟨n, _, _, hr⟩ := hread x hx; exact ⟨_, hr⟩⟩, Nat.le_refl _, rfl⟩
                    have hperm : (intKeys (.map ((E.toList.map (WideElems.rg P kt R)).foldr DataW.insert []) : DataW Unit)).Perm l := by
                      have h1 : ((E.toList.map (WideElems.rg P kt R)).foldr DataW.insert []).Perm (E.toList.map (WideElems.rg P kt R)) := WideShapes.sorted_perm _
                      have h2 := h1.map (fun p : Lit × DataW Unit => intOf p.1)
                      have h3 : (E.toList.map (WideElems.rg P kt R)).map (fun p : Lit × DataW Unit => intOf p.1) = l := by
                        have hinj : (E.toList.map fun x => encZ (intOf (WideElems.rg P kt R x).1)) = l.map encZ := by
                          rw [← hkeys]
                          apply List.map_congr_left
                          intro x hx
                          obtain ⟨n, he, _, hr⟩ := hread x hx
                          rw [WideElems.rg_of hr, he]; rfl
                        have : ((E.toList.map (WideElems.rg P kt R)).map (fun p : Lit × DataW Unit => intOf p.1)).map encZ = l.map encZ := by
                          rw [← hinj]; simp [List.map_map, Function.comp_def]
                        exact map_inj_of encZ_inj this
                      rw [h3] at h2
                      exact h2
                    have hsz : Maps.size (.map ((E.toList.map (WideElems.rg P kt R)).foldr DataW.insert []) : DataW Unit) = l.length := by
                      rw [Maps.size_eq, length_sorted, List.length_map, Array.length_toList, hEl]
                    refine (K.sorted M.b E.size _ R w L.b hlt hcell hown (by have hlen' : l.length ≤ 4294967296 := hlen; rw [hsz]; omega) (by have hlen' : l.length ≤ 4294967296 := hlen; rw [hsz]; omega)).mono ?_
                    rintro e w' ⟨v, ss, rfl, hp, hrest⟩
                    exact ⟨v, ss, rfl, hp.trans hperm, hrest⟩
                  · cases h
                · cases h
            · cases h
        · cases h

/-- one table of known functions behind another -/
def orE (a b : ExtF) : ExtF := fun f args st => match a f args st with
  | some r => some r
  | none => b f args st

theorem orE_ok {P : Program} {G : Nat} {a b : ExtF} (ha : ExtOk P G a) (hb : ExtOk P G b) : ExtOk P G (orE a b) := by
  intro f args st v st' h
  unfold orE at h
  split at h
  · rename_i r hr
    simp only [Option.some.injEq] at h
    subst h
    exact ha f args st v st' hr
  · exact hb f args st v st' h

/-- functions without arguments that are known to return true, and to leave all old memory as it was -/
def trueE (fs : List FuncId) : ExtF := fun f args st => match args with
  | [] => bif fs.any (Nat.beq f) then some (.bool true, st) else none
  | _ => none

theorem trueE_ok {P : Program} {G : Nat} {fs : List FuncId} (h : ∀ f ∈ fs, enters P f = true ∧ ∀ w, Calls P f #[] w fun e w' => e = .returned (.bool true) ∧ Below w.heap.size w w') : ExtOk P G (trueE fs) := by
  intro f args st v st' he ρ w cargs hR hG hA
  unfold trueE at he
  split at he
  · obtain ⟨hb, he'⟩ := bif_some he
    simp only [Option.some.injEq, Prod.mk.injEq] at he'
    obtain ⟨rfl, rfl⟩ := he'
    obtain ⟨g, hg, hgf⟩ := List.any_eq_true.1 hb
    have := Nat.eq_of_beq_eq_true hgf
    subst this
    obtain ⟨h1, h2⟩ := h f hg
    obtain ⟨cl⟩ := cargs
    cases hA
    refine .inl ⟨enters_spec h1 _, (h2 w).mono ?_⟩
    rintro e w' ⟨rfl, hb⟩
    exact ⟨_, rfl, ρ, .bool _, Good.below hR hb⟩
  · cases he

end
end Go.Ev
