/-
  'opPure': every operation that only reckons; and that every run of it gives what it says.
-/
import Derived.Test.YtdmnkhcddbjglaaGreatEvG
namespace Go.Ev
open Go
noncomputable section

def opPure (P : Program) (o : Op) (v : Operand → AV) : Option AV :=
  match o with
  | .move x => some (v x)
  | .assign x => some (v x)
  | .pick c a b => match v c with
    | .bool true => some (v a)
    | .bool false => some (v b)
    | _ => none
  | .build t parts => (builtA P t (parts.toList.map fun x => (x.1, v x.2))).map .agg
  | .binOp op t x y _ => binA P op t x y (v x) (v y)
  | .unOp op _ x => unA op (v x)
  | .convert s d x => convA P s d (v x)
  | .slice t x lo hi mx => sliceAtA P t (v x) (lo.map v) (hi.map v) (mx.map v)
  | .fieldAddr s x f => match v x with
    | .ptr i o => (fieldOff P s f).map fun off => .ptr i (o + off)
    | _ => none
  | .field t x f => fieldA P t (v x) f
  | .indexAddr t x i => indexAtA P t (v x) (v i)
  | .index t x i => indexA P t (v x) (v i)
  | .extract x i => match v x with
    | .tup l => l[i]?
    | _ => none
  | .makeFunc fn first captured => some (.func fn (first.toList.map v) (captured.toList.map v))
  | .makeInterface t x => bif P.concrete t then some (.iface t (v x)) else none
  | .nilCheck x => match v x with
    | .ptr i o => some (.ptr i o)
    | .func (.func f) a b => some (.func (.func f) a b)
    | _ => none
  | .sliceToArrayPointer t x => match P.underlying t, v x with
    | some (.array n _), .slice i off len _ _ => bif Nat.blt 0 n && Nat.ble n len then some (.ptr i off) else none
    | _, _ => none
  | .call ⟨.builtin .len, args, ts⟩ => match ts[0]?, args[0]? with
    | some t, some x => lenA P t (v x)
    | _, _ => none
  | .call ⟨.builtin .cap, args, ts⟩ => match ts[0]?, args[0]? with
    | some t, some x => capA P t (v x)
    | _, _ => none
  | .call ⟨.builtin .min, args, _⟩ => minA true (args.toList.map v)
  | .call ⟨.builtin .max, args, _⟩ => minA false (args.toList.map v)
  | _ => none

theorem run_v {P : Program} {s : Sem Value} {w w' : World} {z : Value} (h : s.run P w = .ok z w') : (do pure (Next.value (← s)) : Sem Next).run P w = .ok (.value z) w' := by
  simp [h]

theorem VRs_map {α : Type} {ρ : Ren} {v : α → AV} {e : α → Value} (h : ∀ x, VR ρ (v x) (e x)) : ∀ l : List α, VRs ρ (l.map v) (l.map e)
  | [] => .nil
  | x :: l => .cons (h x) (VRs_map h l)

theorem VRo_map {ρ : Ren} {v : Operand → AV} {e : Operand → Value} (h : ∀ x, VR ρ (v x) (e x)) : ∀ x : Option Operand, VRo ρ (x.map v) (x.map e)
  | none => .none
  | some x => .some (h x)

theorem min_sound {P : Program} {ρ : Ren} {b : Bool} {l : List AV} {r : AV} {vs : Array Value} (h : minA b l = some r) (hv : VRs ρ l vs.toList) (ts : Array TypeId) (ty : TypeId) (w : World) :
    ∃ u, ((if b then Builtin.min_ ts ty vs else Builtin.max_ ts ty vs : Sem Value)).run P w = .ok u w ∧ VR ρ r u := by
  unfold minA at h
  split at h
  · rename_i k x k' y
    simp only [Option.some.injEq] at h; subst h
    obtain ⟨l⟩ := vs
    cases hv with | cons h1 hv =>
    cases hv with | cons h2 hv =>
    cases hv
    cases h1; cases h2
    cases b with
    | true =>
      refine ⟨.int k (if y < x then y else x), ?_, ?_⟩
      · simp [Builtin.min_, Builtin.min2]
      · simp only [cond_true]
        rw [ltA_eq]
        by_cases hlt : y < x <;> simp [hlt] <;> exact .int _ _
    | false =>
      refine ⟨.int k (if y > x then y else x), ?_, ?_⟩
      · simp [Builtin.max_, Builtin.max2]
      · simp only [cond_false]
        rw [ltA_eq]
        by_cases hlt : x < y <;> simp [hlt] <;> exact .int _ _
  · cases h

theorem opPure_sound {P : Program} {ρ : Ren} {o : Oper} {v : Operand → AV} {e : Operand → Value} {r : AV} (h : opPure P o.op v = some r) (hv : ∀ x, VR ρ (v x) (e x)) (w : World) :
    ∃ z, (execOp e o).run P w = .ok (.value z) w ∧ VR ρ r z := by
  unfold execOp
  unfold opPure at h
  split at h
  · rename_i x ho; rw [ho]; cases h; exact ⟨_, rfl, hv x⟩
  · rename_i x ho; rw [ho]; cases h; exact ⟨_, rfl, hv x⟩
  · rename_i c a b ho
    rw [ho]
    have hc := hv c
    split at h
    · rename_i hcv; rw [hcv] at hc; cases h
      have hce : e c = .bool true := by generalize e c = ec at hc; cases hc; rfl
      exact ⟨e a, by show (do let q ← asBool (e c); pure (Next.value (if q then e a else e b)) : Sem Next).run P w = _; rw [hce]; rfl, hv a⟩
    · rename_i hcv; rw [hcv] at hc; cases h
      have hce : e c = .bool false := by generalize e c = ec at hc; cases hc; rfl
      exact ⟨e b, by show (do let q ← asBool (e c); pure (Next.value (if q then e a else e b)) : Sem Next).run P w = _; rw [hce]; rfl, hv b⟩
    · cases h
  · rename_i t parts ho
    rw [ho]
    simp only [Option.map_eq_some_iff] at h
    obtain ⟨l, hl, rfl⟩ := h
    obtain ⟨C, h1, h2⟩ := build_sound (ρ := ρ) (parts' := parts.map fun x => (x.1, e x.2)) hl (by simp) (by
      simp only [List.map_map, Array.toList_map]
      exact VRs_map (fun x => hv x.2) parts.toList) w
    exact ⟨.agg C, run_v h1, .agg _ _ h2⟩
  · rename_i op t x y ty ho
    rw [ho]
    obtain ⟨z, h1, h2⟩ := binA_sound h (hv x) (hv y) w
    exact ⟨z, run_v h1, h2⟩
  · rename_i op ty x ho
    rw [ho]
    obtain ⟨z, h1, h2⟩ := unA_sound (P := P) h (hv x) w
    exact ⟨z, run_v h1, h2⟩
  · rename_i s d x ho
    rw [ho]
    obtain ⟨z, h1, h2⟩ := convA_sound h (hv x) w
    exact ⟨z, run_v h1, h2⟩
  · rename_i t x lo hi mx ho
    rw [ho]
    obtain ⟨z, h1, h2⟩ := sliceAt_sound h (hv x) (VRo_map hv lo) (VRo_map hv hi) (VRo_map hv mx) w
    exact ⟨z, run_v h1, h2⟩
  · rename_i s x f ho
    rw [ho]
    split at h
    · rename_i i o' hx
      simp only [Option.map_eq_some_iff] at h
      obtain ⟨off, hoff, rfl⟩ := h
      have hx' := hv x
      rw [hx] at hx'
      obtain ⟨z, h1, h2⟩ := fieldAt_sound hoff hx' w
      exact ⟨z, run_v h1, h2⟩
    · cases h
  · rename_i t x f ho
    rw [ho]
    obtain ⟨z, h1, h2⟩ := field_sound h (hv x) w
    exact ⟨z, run_v h1, h2⟩
  · rename_i t x i ho
    rw [ho]
    obtain ⟨z, h1, h2⟩ := indexAt_sound h (hv x) (hv i) w
    exact ⟨z, run_v h1, h2⟩
  · rename_i t x i ho
    rw [ho]
    obtain ⟨z, h1, h2⟩ := index_sound h (hv x) (hv i) w
    exact ⟨z, run_v h1, h2⟩
  · rename_i x i ho
    rw [ho]
    split at h
    · rename_i l hx
      have hx' := hv x
      rw [hx] at hx'
      obtain ⟨a, hea, ha⟩ : ∃ a : Array Value, e x = .tuple a ∧ VRs ρ l a.toList := by
        generalize e x = ex at hx'
        cases hx' with | tup _ a ha => exact ⟨a, rfl, ha⟩
      obtain ⟨u, h1, h2⟩ := ha.get i r h
      have : a[i]? = some u := by simpa using h1
      exact ⟨u, run_v (by rw [hea]; simp [Instr.extract, this]), h2⟩
    · cases h
  · rename_i fn first captured ho
    rw [ho]
    simp only [Option.some.injEq] at h; subst h
    refine ⟨.func fn (first.map e) (captured.map e), rfl, .func _ _ _ _ _ ?_ ?_⟩
    · rw [Array.toList_map]; exact VRs_map hv _
    · rw [Array.toList_map]; exact VRs_map hv _
  · rename_i t x ho
    rw [ho]
    cases hc : P.concrete t with
    | false => rw [hc] at h; simp at h
    | true =>
      rw [hc] at h; simp only [cond_true, Option.some.injEq] at h; subst h
      exact ⟨_, run_v (run_makeInterface w t (e x) hc), .iface _ _ _ (hv x)⟩
  · rename_i x ho
    rw [ho]
    have hx' := hv x
    split at h
    · rename_i i o' hx
      rw [hx] at hx'
      simp only [Option.some.injEq] at h; subst h
      obtain ⟨L, hea, hL⟩ : ∃ L : Loc, e x = .pointer (some (L.at o')) ∧ ρ i = some L := by
        generalize e x = ex at hx'
        cases hx' with | ptr _ _ L hL => exact ⟨L, rfl, hL⟩
      exact ⟨.pointer (some (L.at o')), by simp only [hea]; rfl, .ptr _ _ L hL⟩
    · rename_i f a b hx
      rw [hx] at hx'
      simp only [Option.some.injEq] at h; subst h
      obtain ⟨f', c', hea, hf, hc⟩ : ∃ f' c' : Array Value, e x = .func (.func f) f' c' ∧ VRs ρ a f'.toList ∧ VRs ρ b c'.toList := by
        generalize e x = ex at hx'
        cases hx' with | func _ _ _ f' c' hf hc => exact ⟨f', c', rfl, hf, hc⟩
      exact ⟨.func (.func f) f' c', by simp only [hea]; rfl, .func _ _ _ _ _ hf hc⟩
    · cases h
  · rename_i t x ho
    rw [ho]
    have hx' := hv x
    split at h
    · rename_i n el i off len cap es ht hx
      rw [hx] at hx'
      obtain ⟨hb, h⟩ := bif_some h
      simp only [Bool.and_eq_true, blt_iff, ble_iff] at hb
      simp only [Option.some.injEq] at h; subst h
      obtain ⟨L, c, hea, hL⟩ : ∃ (L : Loc) (c : Nat), e x = .slice (some (L.at off)) len c ∧ ρ i = some L := by
        generalize e x = ex at hx'
        cases hx' with
        | slice _ _ _ _ _ cap' L hL => exact ⟨L, cap', rfl, hL⟩
        | slice0 => omega
      refine ⟨.pointer (some (L.at off)), run_v ?_, .ptr _ _ L hL⟩
      rw [hea]
      simp [Instr.arrayAt, run_underlying ht, Nat.not_lt.2 hb.2]
    · cases h
  · rename_i args ts ho
    rw [ho]
    split at h
    · rename_i t x ht hx
      have hvs : (args.map e)[0]? = some (e x) := by simp [hx]
      obtain ⟨z, h1, h2⟩ := len_sound (ty := o.type) h ht hvs (hv x) w
      exact ⟨z, run_v h1, h2⟩
    · cases h
  · rename_i args ts ho
    rw [ho]
    split at h
    · rename_i t x ht hx
      have hvs : (args.map e)[0]? = some (e x) := by simp [hx]
      obtain ⟨z, h1, h2⟩ := cap_sound (ty := o.type) h ht hvs (hv x) w
      exact ⟨z, run_v h1, h2⟩
    · cases h
  · rename_i args ts ho
    rw [ho]
    obtain ⟨z, h1, h2⟩ := min_sound (P := P) (ρ := ρ) (vs := args.map e) h (by rw [Array.toList_map]; exact VRs_map hv _) ts o.type w
    exact ⟨z, run_v h1, h2⟩
  · rename_i args ts ho
    rw [ho]
    obtain ⟨z, h1, h2⟩ := min_sound (P := P) (ρ := ρ) (vs := args.map e) h (by rw [Array.toList_map]; exact VRs_map hv _) ts o.type w
    exact ⟨z, run_v h1, h2⟩
  · cases h

end
end Go.Ev
