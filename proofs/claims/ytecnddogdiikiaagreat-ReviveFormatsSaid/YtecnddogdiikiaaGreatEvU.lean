/-
  The evaluator is right: regions, control flow, calls.
-/
import Derived.Test.YtecnddogdiikiaaGreatEvT
set_option linter.unusedVariables false
set_option linter.unusedSimpArgs false
namespace Go.Ev
open Go
noncomputable section

theorem deadFrom_spec {h : T AO} : ∀ (n i : Nat), deadFrom h i n = true → ∀ j, i ≤ j → j < i + n → (h.get j).live = false := by
  intro n
  induction n with
  | zero => intro i _ j h1 h2; omega
  | succ n ih =>
    intro i hd j h1 h2
    simp only [deadFrom, Bool.and_eq_true, Bool.not_eq_true'] at hd
    by_cases e : j = i
    · subst e; exact hd.1
    · exact ih (i + 1) hd.2 j (by omega) (by omega)

/-- how many have not come up -/
def unl (listed : Array Bool) : List Nat → Nat
  | [] => 0
  | i :: l => (if listed.getD i false = true then 0 else 1) + unl listed l

theorem unl_set {listed : Array Bool} {p : Nat} (hp : p < listed.size) (hf : listed.getD p false = false) : ∀ (l : List Nat), l.Nodup → unl (listed.setIfInBounds p true) l + (if p ∈ l then 1 else 0) = unl listed l := by
  intro l
  induction l with
  | nil => intro _; simp [unl]
  | cons i l ih =>
    intro hn
    obtain ⟨hni, hn'⟩ := List.nodup_cons.1 hn
    have := ih hn'
    simp only [unl, List.mem_cons]
    by_cases e : i = p
    · subst e
      have h1 : (listed.setIfInBounds i true).getD i false = true := by simp [Array.getD_eq_getD_getElem?, hp]
      rw [if_pos h1, hf]
      simp only [Bool.false_eq_true, if_false, true_or, if_true]
      rw [if_neg hni] at this
      omega
    · have h1 : (listed.setIfInBounds p true).getD i false = listed.getD i false := by
        simp [Array.getD_eq_getD_getElem?, Array.getElem?_setIfInBounds, Ne.symm e]
      rw [h1]
      have h2 : (p = i ∨ p ∈ l) ↔ p ∈ l := by
        constructor
        · rintro (rfl | h)
          · exact absurd rfl e
          · exact h
        · exact .inr
      simp only [h2]
      omega

theorem unl_zero {listed : Array Bool} : ∀ (l : List Nat), unl listed l = 0 → ∀ i ∈ l, listed.getD i false = true := by
  intro l
  induction l with
  | nil => intro _ i hi; simp at hi
  | cons x l ih =>
    intro h i hi
    simp only [unl] at h
    rcases List.mem_cons.1 hi with rfl | hi
    · by_cases hx : listed.getD i false = true
      · exact hx
      · rw [if_neg hx] at h; omega
    · exact ih (by omega) i hi

theorem evDraw_any {P : Program} {G : Nat} {call : CallF} (hcall : CallOk P G call) {ops : Array Oper} {lim : Nat} {ds : Nat → DS} {vs : Nat → AV} {ρ0 : Ren} {st0 : St} {w0 : World} {df : List Deferred}
    (hr : Run P G call ops lim (ancsOf ops) ds vs) (hst : StaticOk P ops (ancsOf ops)) (hok : T.Ok (ds 0).fr.d (ds 0).fr.t) (hl : (ds 0).fr.lim ≤ 2 ^ (ds 0).fr.d) (hp0 : (ds 0).pend = []) (hn0 : (ds 0).nid = st0.next)
    (hG0 : Glob ρ0 G) {ro : Option Nat} {Q : Exit → Act → World → Prop}
    (hQ : ∀ ρ c g D a w, InvAt P G ops lim ds vs ρ0 st0 w0 df ρ c g D a w → (∀ i, i < ops.size → D i = true) → Q .normal a w) :
    ∀ (fuel : Nat) (listed : Array Bool) (ρ : Ren) (c : Nat) (g : Nat → AO) (a : Act) (w : World), listed.size = ops.size → unl listed (List.range ops.size) = fuel →
      InvAt P G ops lim ds vs ρ0 st0 w0 df ρ c g (fun i => listed.getD i false) a w → wpAnyIn (fence ro) 0 P .any ops Q fuel listed a w := by
  intro fuel
  induction fuel with
  | zero =>
    intro listed ρ c g a w hsz hun hI
    have hall := unl_zero _ hun
    refine ⟨?_, hQ ρ c g _ a w hI (fun i hi => hall i (List.mem_range.2 hi))⟩
    apply List.filter_eq_nil_iff.2
    intro i hi
    have := hall i hi
    have hi' : i < listed.size := by rw [hsz]; exact List.mem_range.1 hi
    simp only [Array.getD_eq_getD_getElem?, Array.getElem?_eq_getElem hi', Option.getD_some] at this ⊢
    simp [this]
  | succ fuel ih =>
    intro listed ρ c g a w hsz hun hI
    have hready : ∀ i, i ∈ Region.ready .any ops listed ↔ i < ops.size ∧ listed.getD i false = false ∧ ∃ o, ops[i]? = some o ∧ ∀ e ∈ o.after.toList, Region.binds .any e = true → listed.getD e.on false = true := by
      intro i
      unfold Region.ready
      rw [List.mem_filter, List.mem_range]
      constructor
      · rintro ⟨h1, h2⟩
        have hi' : i < listed.size := by omega
        simp only [Bool.and_eq_true, Bool.not_eq_true'] at h2
        obtain ⟨o, ho⟩ : ∃ o, ops[i]? = some o := ⟨_, Array.getElem?_eq_getElem h1⟩
        rw [ho] at h2
        refine ⟨h1, ?_, o, ho, fun e he hb => ?_⟩
        · have := h2.1
          simp only [Array.getD_eq_getD_getElem?, Array.getElem?_eq_getElem hi', Option.getD_some] at this ⊢
          exact this
        · have h3 := h2.2
          simp only [Option.map_some, Option.getD_some] at h3
          have := Array.all_eq_true_iff_forall_mem.1 h3 e (by simpa using he)
          rw [hb] at this
          simpa using this
      · rintro ⟨h1, h2, o, ho, h3⟩
        have hi' : i < listed.size := by omega
        refine ⟨h1, ?_⟩
        rw [ho]
        simp only [Bool.and_eq_true, Bool.not_eq_true', Option.map_some, Option.getD_some]
        refine ⟨?_, ?_⟩
        · simp only [Array.getD_eq_getD_getElem?, Array.getElem?_eq_getElem hi', Option.getD_some] at h2 ⊢
          exact h2
        · apply Array.all_eq_true_iff_forall_mem.2
          intro e he
          cases hb : Region.binds .any e with
          | false => rfl
          | true => simpa using h3 e (by simpa using he) hb
    refine ⟨fun hnil => ?_, fun i hi => ?_⟩
    · -- something is still to come, so something is ready
      exfalso
      have hex : ∃ h, h < ops.size ∧ listed.getD h false = false := by
        by_cases hq : ∃ h, h < ops.size ∧ listed.getD h false = false
        · exact hq
        · have : unl listed (List.range ops.size) = 0 := by
            have gen : ∀ l : List Nat, (∀ x ∈ l, listed.getD x false = true) → unl listed l = 0 := by
              intro l
              induction l with
              | nil => intro _; rfl
              | cons x l ihl => intro h; simp only [unl]; rw [if_pos (h x (by simp)), ihl (fun y hy => h y (by simp [hy]))]
            apply gen
            intro x hx
            cases hb : listed.getD x false with
            | true => rfl
            | false => exact (hq ⟨x, List.mem_range.1 hx, hb⟩).elim
          omega
      obtain ⟨h, h1, h2, h3⟩ := exists_least ops.size hex
      obtain ⟨o, ho⟩ : ∃ o, ops[h]? = some o := ⟨_, Array.getElem?_eq_getElem h1⟩
      have : h ∈ Region.ready .any ops listed := (hready h).2 ⟨h1, h2, o, ho, fun e he hb => by
        have hlt := hst.edge h o ho e he hb
        cases hq : listed.getD e.on false with
        | true => rfl
        | false => exact (h3 e.on hlt hq).elim⟩
      rw [hnil] at this
      simp at this
    · obtain ⟨h1, h2, o, ho, h3⟩ := (hready i).1 hi
      have hanc := anc_in (D := fun i => listed.getD i false) hst hI.closed ho h3
      refine hI.step hcall hr hst hok hl hp0 hn0 hG0 ho h2 hanc ?_
      intro ρ' c' g' a' w' hI'
      have hi' : i < listed.size := by omega
      refine ih (listed.setIfInBounds i true) ρ' c' g' a' w' (by simpa using hsz) ?_ ?_
      · have := unl_set hi' h2 (List.range ops.size) List.nodup_range
        rw [if_pos (List.mem_range.2 h1)] at this
        omega
      · have he : (fun j => (listed.setIfInBounds i true).getD j false) = upd (fun j => listed.getD j false) i := by
          funext j
          unfold upd
          by_cases e : j = i
          · subst e; simp [Array.getD_eq_getD_getElem?, hi']
          · simp [Array.getD_eq_getD_getElem?, Array.getElem?_setIfInBounds, Ne.symm e, e]
        rw [he]; exact hI'

/-- a run of the region in its own order stands for all orders -/
theorem dGo_sound {P : Program} {G : Nat} {call : CallF} (hcall : CallOk P G call) (hmix : P.follows .mixedOrders = true) {ops : Array Oper} {id : Nat} {fr : Fr} {s : DS} {hp : T AO} {d nx n : Nat} {ρ : Ren} {a : Act} {w : World}
    (hst : StaticOk P ops (ancsOf ops)) (hle : nx + n ≤ 2 ^ d) (hdead : deadFrom hp nx n = true)
    (hgo : dGo ⟨P, G, call, ops, nx + n⟩ ops.toList (ancsOf ops) 0 ⟨fr, ⟨hp, d, nx + n⟩, [], [], [], [], nx⟩ = some s) (hF : FR ρ fr a.tmps) (hR : Rel ρ ⟨hp, d, nx⟩ w) (hG : Glob ρ G) {ro : Option Nat} {Q : Exit → Act → World → Prop}
    (hQ : ∀ ρ' a' w', FR ρ' s.fr a'.tmps → Good ρ ⟨hp, d, nx⟩ w ρ' (allPend s.st s.pend) w' → a'.defers = a.defers → Q .normal a' w') : (Code.region id ops true).wpIn (fence ro) 0 P Q a w := by
  obtain ⟨ds, vs, hd0, hdN, hstep⟩ := dGo_seq _ _ _ _ _ hgo
  rw [Nat.zero_add, Array.length_toList] at hdN
  have hr : Run P G call ops (nx + n) (ancsOf ops) ds vs := ⟨fun p o ho => by
    have := hstep p o (by simpa using ho)
    simpa using this⟩
  have hok : T.Ok (ds 0).fr.d (ds 0).fr.t := by rw [hd0]; exact hF.ok
  have hl : (ds 0).fr.lim ≤ 2 ^ (ds 0).fr.d := by rw [hd0]; exact hF.lim
  have hp0 : (ds 0).pend = [] := by rw [hd0]
  have hn0 : (ds 0).nid = nx := by rw [hd0]
  refine wpIn_region_any hmix ?_
  have hR' := hR.drew
  -- the beginning
  have hI : InvAt P G ops (nx + n) ds vs ρ ⟨hp, d, nx⟩ w a.defers ρ 0 hp.get (fun i => (Array.replicate ops.size false).getD i false) a { w with drawn := w.drawn + 1 } := by
    have hDf : ∀ i, (Array.replicate ops.size false).getD i false = false := by
      intro i; simp [Array.getD_eq_getD_getElem?, Array.getElem?_replicate]; split <;> rfl
    have hnext : (ds 0).st.next = nx + n := by rw [hd0]
    have hheap : (ds 0).st.heap = hp := by rw [hd0]
    have hdep : (ds 0).st.dep = d := by rw [hd0]
    have hdd : ∀ i, nx ≤ i → i < nx + n → (hp.get i).live = false := deadFrom_spec _ _ hdead
    have hnm : ∀ q, ¬ Mat P ops ds 0 q := by rintro q ⟨h, _, _, _, h2, _⟩; omega
    refine ⟨Nat.zero_le _, ?_, ?_, by rw [hheap, hdep]; exact hR.ok, by rw [hnext, hdep]; exact hle, hdep, by rw [hnext]; exact Nat.le_refl _, ?_, ?_, ?_, ?_, ?_, ?_, rfl, ?_, ?_⟩
    · intro h oh hh; simp only [hDf]; constructor
      · intro hx; cases hx
      · intro hx; omega
    · rw [hnext]
      refine ⟨.refl ρ, ⟨fun i hi => hR.fresh i (by show nx ≤ i; omega), ?_, ?_⟩, by show nx ≤ _; omega, Nat.le_refl _, rfl, rfl, rfl, fun _ _ _ => rfl, ?_, fun _ _ hh => hh, fun _ _ => rfl⟩
      · intro i hi hlv
        have hin : i < nx := by
          rcases Nat.lt_or_ge i nx with e | e
          · exact e
          · rw [hdd i e hi] at hlv; cases hlv
        exact hR.live i hin hlv
      · intro i j L M hi hj hne hlv hw hL hM
        have hin : i < nx := by
          rcases Nat.lt_or_ge i nx with e | e
          · exact e
          · rw [hdd i e hi] at hlv; cases hlv
        have hjn : j < nx := by
          rcases Nat.lt_or_ge j nx with e | e
          · exact e
          · have := AO.live_of_writable hw; rw [hdd j e hj] at this; cases this
        exact hR.inj i j L M hin hjn hne hlv hw hL hM
      · intro i L hi hlv hL _
        have hin : i < nx := by
          rcases Nat.lt_or_ge i nx with e | e
          · exact e
          · rw [hdd i e hi] at hlv; cases hlv
        exact ⟨i, L, hin, hlv, hL, rfl, fun q => q⟩
    · intro q ao _ hd; simp only [hDf] at hd; cases hd
    · intro i _; rw [hheap]
    · intro q ao hm _
      have h1 := (hr.nid_lt hm).1
      have h2 := nid_ge (st0 := ⟨hp, d, nx⟩) hr hn0 hm
      rw [hheap]; exact hdd _ h2 h1
    · intro q ao hm _
      have h2 := nid_ge (st0 := ⟨hp, d, nx⟩) hr hn0 hm
      exact hR.fresh _ h2
    · rw [hd0]; exact hF.size
    · intro t ht
      have hb : cur ops vs (fun i => (Array.replicate ops.size false).getD i false) ((ds 0).fr.get t) t ops.size = (ds 0).fr.get t := by
        rw [cur_stop (m := 0) ops.size (Nat.zero_le _) (fun q _ _ _ => hDf q)]; rfl
      rw [hb, hd0]; exact hF.get t
    · intro p _ hd; simp only [hDf] at hd; cases hd
    · intro p hd; simp only [hDf] at hd; cases hd
  refine evDraw_any hcall hr hst hok hl hp0 (st0 := ⟨hp, d, nx⟩) hn0 hG ?_ ops.size _ ρ 0 hp.get a _ (by simp) ?_ hI
  · -- the end
    intro ρ' c g D a' w' hJ hall
    have hcs := hJ.hc
    have hstN : (ds ops.size).st = (ds c).st := hr.st_same hcs (Nat.le_refl _) (fun h oh hh h1 h2 => by
      have := (hJ.heavy h oh hh).1 (hall h h2); omega)
    have hmatN : ∀ q, Mat P ops ds ops.size q → Mat P ops ds c q := by
      rintro q ⟨h, oh, hh, a1, a2, a3⟩
      exact ⟨h, oh, hh, a1, (hJ.heavy h oh hh).1 (hall h a2), a3⟩
    have hlim := hJ.lim
    have hids : ∀ x ∈ (ds ops.size).pend, x.2.1 < (ds ops.size).st.next := by
      intro x hx
      obtain ⟨q, ao, rfl, _, hm, _⟩ := (hr.pend_spec hp0 ops.size (Nat.le_refl _) x).1 hx
      have := (hr.nid_lt hm).1
      rw [hstN]; simp only []; omega
    obtain ⟨m1, m2, m3, m4⟩ := allPend_spec (st := (ds ops.size).st) (by rw [hstN]; exact hJ.ok) (by rw [hstN]; exact hJ.le) (ds ops.size).pend hids
    rw [hdN] at m1 m2 m3 m4 hstN
    obtain ⟨sfr, sst, spend, shist, srds, ssofts, snid⟩ := s
    simp only [] at m1 m2 m3 m4 hstN
    refine hQ ρ' a' w' ?_ ?_ hJ.defers
    · obtain ⟨f1, f2, f3, f4⟩ := hr.fr_spec hok hl ops.size (Nat.le_refl _)
      rw [hdN] at f1 f2 f3 f4
      simp only [] at f1 f2 f3 f4
      refine ⟨f3, by rw [f1, f2]; exact hl, by rw [f1]; exact hJ.tsize, fun t ht => ?_⟩
      rw [f1] at ht
      have h5 := hJ.tmps t ht
      rw [cur_congr (D' := fun _ => true) ops.size (fun q hq _ => hall q hq), ← f4 t ht, Fr.get_eq, f1, blt_iff.2 ht] at h5
      exact h5
    · have hg : HGood ρ hp.get nx w ρ' (allPend sst spend).heap.get (allPend sst spend).next w' := by
        have hn : (allPend sst spend).next = (ds c).st.next := by rw [m1, hstN]
        rw [hn]
        refine hJ.good.congr (fun i hi => ?_)
        rcases m4 i (by rw [hstN]; exact hi) with ⟨x, hx, b1, b2⟩ | ⟨b1, b2⟩
        · obtain ⟨q, ao, rfl, hq, hm, hno⟩ := (hr.pend_spec hp0 ops.size (Nat.le_refl _) x).1 (by rw [hdN]; exact hx)
          simp only [] at b1 b2
          rw [b2, ← b1]
          refine (hJ.gP q ao hm (hall q hq) ?_).1.symm
          rintro ⟨h, oh, hh, a1, a2, a3⟩
          have := hno h oh hh a1 (by omega); rw [a3] at this; cases this
        · rw [b2, hstN]
          symm
          apply hJ.gS
          rintro q ao hm hd hnm rfl
          have hq := (hr.nid_lt hm).2.2
          have hmem : (q, (ds q).nid, ao) ∈ (ds ops.size).pend := (hr.pend_spec hp0 ops.size (Nat.le_refl _) _).2 ⟨q, ao, rfl, hq, hm, fun h oh hh a1 a2 => by
            cases hqq : ((ancsOf ops).getD h 0).testBit q with
            | false => rfl
            | true => exact (hnm (hmatN q ⟨h, oh, hh, a1, a2, hqq⟩)).elim⟩
          rw [hdN] at hmem
          exact b1 _ hmem rfl
      exact HGood.good (st := ⟨hp, d, nx⟩) hg (by rw [m2]; exact m3) (by rw [m1, m2, hstN]; exact hJ.le) (by rw [m2, hstN]; exact hJ.dep)
  · -- all are still to come
    have gen : ∀ l : List Nat, unl (Array.replicate ops.size false) l = l.length := by
      intro l
      induction l with
      | nil => rfl
      | cons x l ihl =>
        simp only [unl, ihl, List.length_cons]
        have : (Array.replicate ops.size false).getD x false = false := by
          simp [Array.getD_eq_getD_getElem?, Array.getElem?_replicate]; split <;> rfl
        rw [this]; simp; omega
    rw [gen, List.length_range]

theorem evDraw_sound {P : Program} {G : Nat} {call : CallF} (hcall : CallOk P G call) (hmix : P.follows .mixedOrders = true) {ops : Array Oper} {id : Nat} {fr fr' : Fr} {st st' : St} {ρ : Ren} {a : Act} {w : World}
    (h : evDraw P G call ops fr st = some (fr', st')) (hF : FR ρ fr a.tmps) (hR : Rel ρ st w) (hG : Glob ρ G) {ro : Option Nat} {Q : Exit → Act → World → Prop}
    (hQ : ∀ ρ' a' w', FR ρ' fr' a'.tmps → Good ρ st w ρ' st' w' → a'.defers = a.defers → Q .normal a' w') : (Code.region id ops true).wpIn (fence ro) 0 P Q a w := by
  unfold evDraw at h
  split at h
  · rename_i n ms hT
    unfold drawT at hT
    simp only [] at hT
    obtain ⟨hstat, hTT⟩ := bif_some hT
    simp only [Option.some.injEq, Prod.mk.injEq] at hTT
    obtain ⟨rfl, rfl⟩ := hTT
    simp only [Bool.and_eq_true] at hstat
    obtain ⟨⟨hs1, hs2⟩, _⟩ := hstat
    have hst := static_of hs1
    obtain ⟨hp, d, nx⟩ := st
    simp only [] at h
    obtain ⟨hc, h⟩ := bif_some h
    simp only [Bool.and_eq_true, ble_iff] at hc
    obtain ⟨hle, hdead⟩ := hc
    cases hgo : dGo ⟨P, G, call, ops, nx + countA P ops.toList⟩ ops.toList (ancsOf ops) 0 ⟨fr, ⟨hp, d, nx + countA P ops.toList⟩, [], [], [], [], nx⟩ with
    | none => rw [hgo] at h; simp [drawEnd] at h
    | some s =>
      rw [hgo] at h
      refine dGo_sound hcall hmix hst hle hdead hgo hF hR hG ?_
      obtain ⟨sfr, sst, spend, shist, srds, ssofts, snid⟩ := s
      simp only [drawEnd, Option.some.injEq, Prod.mk.injEq] at h
      obtain ⟨rfl, rfl⟩ := h
      exact hQ
  · cases h

end
end Go.Ev

