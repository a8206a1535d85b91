/-
  The operations that make a new block.
-/
import Derived.Test.YtdmnkhcddbjglaaGreatEvI
import Derived.Great.BuildSlice
set_option linter.unusedVariables false
set_option linter.unusedSimpArgs false
namespace Go.Ev
open Go
noncomputable section

/-- n times a list -/
def zerosA {α : Type} (zl : List α) : Nat → List α
  | 0 => []
  | n + 1 => zl ++ zerosA zl n

theorem zerosA_length {α : Type} (zl : List α) (n : Nat) : (zerosA zl n).length = n * zl.length := by
  induction n with
  | zero => simp [zerosA]
  | succ n ih => simp [zerosA, ih, Nat.add_mul]; omega

theorem zerosA_get {α : Type} (zl : List α) : ∀ (n k : Nat), k < n * zl.length → (zerosA zl n)[k]? = zl[k % zl.length]? := by
  intro n
  induction n with
  | zero => intro k h; omega
  | succ n ih =>
    intro k h
    rw [Nat.add_mul] at h
    by_cases hk : k < zl.length
    · rw [zerosA, List.getElem?_append_left hk, Nat.mod_eq_of_lt hk]
    · rw [zerosA, List.getElem?_append_right (by omega), ih _ (by omega)]
      congr 1
      rw [← Nat.mod_eq_sub_mod (by omega)]

theorem madeCells_toList (z : Array Value) (n : Nat) : (madeCells z (n * z.size)).toList = zerosA z.toList n := by
  apply List.ext_getElem?
  intro k
  by_cases hk : k < n * z.size
  · rw [zerosA_get _ _ _ (by simpa using hk)]
    have hpos : 0 < z.size := by
      rcases Nat.eq_zero_or_pos z.size with h | h
      · rw [h] at hk; omega
      · exact h
    have hm : k % z.size < z.size := Nat.mod_lt _ hpos
    simp [madeCells, hk, hm]
  · rw [List.getElem?_eq_none (by simp [madeCells]; omega), List.getElem?_eq_none (by rw [zerosA_length]; simp; omega)]

theorem VRs_zeros {ρ : Ren} {l : List AV} {m : List Value} (h : VRs ρ l m) : ∀ n, VRs ρ (zerosA l n) (zerosA m n)
  | 0 => .nil
  | n + 1 => h.append (VRs_zeros h n)

/-- n elements of zero cells -/
def zeroRow (zl : List AV) (n : Nat) : Blk :=
  match zl with
  | [.int .u8 (.ofNat 0)] => .b n 0
  | zl => .l (zerosA zl n)

theorem bytesA_zero (n : Nat) : bytesA 0 n = zerosA [.int .u8 (.ofNat 0)] n := by
  induction n with
  | zero => rfl
  | succ n ih =>
    have : bytesA 0 (n + 1) = .int .u8 ((0 : Nat) : Int) :: bytesA 0 n := by simp [bytesA, bytesL]
    rw [this, ih]; rfl

theorem zeroRow_toL (zl : List AV) (n : Nat) : (zeroRow zl n).toL = zerosA zl n := by
  unfold zeroRow
  split
  · exact bytesA_zero n
  · rfl

/-- cells in their best form -/
def rowOf (l : List AV) : Blk :=
  match packA l with
  | some m => .b l.length m
  | none => .l l

theorem rowOf_toL (l : List AV) : (rowOf l).toL = l := by
  unfold rowOf
  split
  · rename_i m h; exact (packA_eq l m h).symm
  · rfl

/-- a type's zero cells; none: not known, or of another number than its size -/
def zeroL (P : Program) (t : TypeId) : Option (List AV) :=
  match P.info? t with
  | some i => match i.zero with
    | some z => match (constA z).cellsA with
      | some l => bif Nat.beq l.length i.size then some l else none
      | none => none
    | none => none
  | none => none

theorem zeroL_some {P : Program} {t : TypeId} {l : List AV} (h : zeroL P t = some l) (ρ : Ren) :
    ∃ i z, P.info? t = some i ∧ i.zero = some z ∧ VRs ρ l z.cells.toList ∧ l.length = i.size ∧ z.cells.size = i.size := by
  unfold zeroL at h
  split at h
  · rename_i i hi
    split at h
    · rename_i z hz
      split at h
      · rename_i l' hl
        cases hb : Nat.beq l'.length i.size with
        | false => rw [hb] at h; simp at h
        | true =>
          rw [hb] at h; simp only [cond_true, Option.some.injEq] at h; subst h
          have hv := cellsA_sound hl (constA_VR ρ z)
          have h1 := beq_iff.1 hb
          have h2 := hv.length
          simp only [Array.length_toList] at h2
          exact ⟨i, z, hi, hz, hv, h1, by omega⟩
      · cases h
    · cases h
  · cases h

/-- the new block and, by its number, the value -/
def opAlloc (P : Program) (o : Op) (v : Operand → AV) : Option (AO × (Nat → AV)) :=
  match o with
  | .alloc t => match zeroL P t with
    | some l => (mkRow (rowOf l)).map fun o => (o, fun i => .ptr i 0)
    | none => none
  | .box t x => match (v x).cellsA with
    | some l => (mkRow (rowOf l)).map fun o => (o, fun i => .ptr i 0)
    | none => none
  | .buildSlice t len parts => match P.underlying t with
    | some (.slice e) => match zeroL P e with
      | some zl => bif Nat.ble (len * zl.length) 16777216 then
          match fillA (fun i => some (i * zl.length, zl.length)) (zerosA zl len) (parts.toList.map fun x => (x.1, v x.2)) with
          | some l => (mkRow (rowOf l)).map fun o => (o, fun i => .slice i 0 len len 0)
          | none => none
        else none
      | none => none
    | _ => none
  | .makeSlice t l c => match P.underlying t, v l, v c with
    | some (.slice e), .int _ (.ofNat l), .int _ (.ofNat c) => match zeroL P e, P.info? e with
      | some zl, some i => bif Nat.ble l c && Nat.ble (i.bytes * c) 281474976710656 && Nat.ble c 9223372036854775807 then
          (mkRow (zeroRow zl c)).map fun o => (o, fun i => .slice i 0 l c 0)
        else none
      | _, _ => none
    | _, _, _ => none
  | .makeMap t none => some (.map [], fun i => .map i)
  | .convert s d x => match P.underlying s, P.underlying d, v x with
    | some .string, some (.slice e), .str n b => bif isU8 P e then (mkRow (.b n b)).map fun o => (o, fun i => .slice i 0 n n 1) else none
    | _, _, _ => none
  | _ => none

structure SameOut (w w' : World) : Prop where
  os : w'.os = w.os
  tape : w'.tape = w.tape
  output : w'.output = w.output

theorem free_none (top : Nat) : free (0, 0) top := ⟨Nat.le_refl _, by intro o _; simp⟩

theorem mkRow_rel0 {ρ : Ren} {x : Blk} {o : AO} (h : mkRow x = some o) {C : Array Value} {e : TypeId} {b : Nat} (hv : VRs ρ x.toL C.toList) : ORel ρ ⟨b, 0, C.size⟩ o (.cells C e (0, 0)) := by
  have := mkRow_rel (ρ := ρ) (b := b) (e := e) (fz := (0, 0)) h (rest := []) hv (free_none _) (fun _ _ => free_none _)
  simpa using this

theorem opAlloc_sound {P : Program} {ρ : Ren} {o : Oper} {v : Operand → AV} {e : Operand → Value} {ao : AO} {f : Nat → AV} (h : opAlloc P o.op v = some (ao, f))
    (hv : ∀ x, VR ρ (v x) (e x)) (w : World) :
    ∃ z ob sh top w', (execOp e o).run P w = .ok (.value z) w' ∧ w'.heap = w.heap.push ob ∧ SameOut w w' ∧
      ∀ (id : Nat) (ρ' : Ren), Ext ρ ρ' → ρ' id = some ⟨w.heap.size, sh, top⟩ → ORel ρ' ⟨w.heap.size, sh, top⟩ ao ob ∧ VR ρ' (f id) z := by
  unfold execOp
  unfold opAlloc at h
  split at h
  · rename_i t ho
    rw [ho]
    split at h
    · rename_i l hl
      simp only [Option.map_eq_some_iff, Prod.mk.injEq] at h
      obtain ⟨ao', ha, rfl, rfl⟩ := h
      obtain ⟨i, z, hi, hz, hvz, _, _⟩ := zeroL_some hl ρ
      refine ⟨.pointer (some ⟨w.heap.size, 0, none⟩), .cells z.cells t, 0, z.cells.size, w.alloc (.cells z.cells t), run_v ?_, rfl, ⟨rfl, rfl, rfl⟩, ?_⟩
      · simp [Instr.alloc, zeroValue, typeInfo, hi, hz, newVar, newRow]
      · intro id ρ' he hid
        exact ⟨mkRow_rel0 ha (by rw [rowOf_toL]; exact hvz.ext he), .ptr id 0 _ hid⟩
    · cases h
  · rename_i t x ho
    rw [ho]
    split at h
    · rename_i l hl
      simp only [Option.map_eq_some_iff, Prod.mk.injEq] at h
      obtain ⟨ao', ha, rfl, rfl⟩ := h
      have hvl := cellsA_sound hl (hv x)
      refine ⟨.pointer (some ⟨w.heap.size, 0, none⟩), .cells (e x).cells t, 0, (e x).cells.size, w.alloc (.cells (e x).cells t), run_v ?_, rfl, ⟨rfl, rfl, rfl⟩, ?_⟩
      · simp [Instr.box, newVar, newRow]
      · intro id ρ' he hid
        exact ⟨mkRow_rel0 ha (by rw [rowOf_toL]; exact hvl.ext he), .ptr id 0 _ hid⟩
    · cases h
  · rename_i t len parts ho
    rw [ho]
    split at h
    · rename_i el ht
      split at h
      · rename_i zl hzl
        cases hb : Nat.ble (len * zl.length) 16777216 with
        | false => rw [hb] at h; simp at h
        | true =>
          rw [hb] at h; simp only [cond_true] at h
          have hsm := ble_iff.1 hb
          split at h
          · rename_i l hl
            simp only [Option.map_eq_some_iff, Prod.mk.injEq] at h
            obtain ⟨ao', ha, rfl, rfl⟩ := h
            obtain ⟨i, z, hi, hz, hvz, hlen, hsz⟩ := zeroL_some hzl ρ
            have hmade : ((Array.range (len * i.size)).map (z.cells[· % z.cells.size]!)) = madeCells z.cells (len * i.size) := rfl
            have hzv : VRs ρ (zerosA zl len) (madeCells z.cells (len * z.cells.size)).toList := by rw [madeCells_toList]; exact VRs_zeros hvz len
            obtain ⟨C, hC, hr⟩ := fill_sound (ρ := ρ) (fun i => some (i * zl.length, zl.length)) _ (parts.map fun x => (x.1, e x.2)).toList _ l _ hl hzv
              (by simp) (by simp only [List.map_map, Array.toList_map]; exact VRs_map (fun x => hv x.2) parts.toList)
            have hrun : (Instr.buildSlice t len (parts.map fun x => (x.1, e x.2))).run P w = .ok (.slice (some ⟨w.heap.size, 0, none⟩) len len) (w.alloc (.cells C el)) := by
              by_cases hp : len * i.size = 0
              · have hC' : Instr.fill (fun i_1 => some (i_1 * i.size, i.size)) (#[] : Array Value) (parts.map fun x => (x.1, e x.2)).toList = some C := by
                  have : madeCells z.cells (len * z.cells.size) = #[] := by rw [hsz, hp]; simp [madeCells]
                  rw [← this, ← hlen]; exact hC
                have hpe : (Array.range (len * i.size)).map ((#[] : Array Value)[· % (#[] : Array Value).size]!) = #[] := by rw [hp]; simp
                simp only [Instr.buildSlice, Sem.run_bind, run_underlying ht, Result.andThen_ok, sizeOf, typeInfo, run_program, hi, Sem.run_pure]
                have hng : ¬ len * i.size > 2 ^ 24 := by rw [hp]; omega
                simp only [hng, if_false, Sem.run_pure, Result.andThen_ok, hp, if_true, Sem.run_ite, Sem.run_bind]
                simp only [hC', Array.range_zero', Array.map_empty]
                rfl
              · refine run_buildSlice w t el len _ C i z ht hi hz (by rw [← hlen]; omega) hp ?_
                rw [hmade, ← hsz]; rw [hsz, ← hlen]; rw [hsz, ← hlen] at hC; exact hC
            refine ⟨.slice (some ⟨w.heap.size, 0, none⟩) len len, .cells C el, 0, C.size, w.alloc (.cells C el), run_v hrun, rfl, ⟨rfl, rfl, rfl⟩, ?_⟩
            intro id ρ' he hid
            refine ⟨mkRow_rel0 ha (by rw [rowOf_toL]; exact hr.ext he), ?_⟩
            by_cases hz0 : len = 0
            · subst hz0; exact .slice0 _ _ _ _ _ (fun _ => rfl) (fun h => absurd rfl h)
            · exact .slice id 0 len len 0 len _ hid (by omega) (Nat.le_refl _) (fun _ => rfl) (fun h => absurd rfl h)
          · cases h
      · cases h
    · cases h
  · rename_i t l c ho
    rw [ho]
    split at h
    · rename_i el kl ln kc cn ht hl hc
      split at h
      · rename_i zl i hzl hi
        cases hb : (Nat.ble ln cn && Nat.ble (i.bytes * cn) 281474976710656 && Nat.ble cn 9223372036854775807) with
        | false => rw [hb] at h; simp at h
        | true =>
          rw [hb] at h; simp only [cond_true, Option.map_eq_some_iff, Prod.mk.injEq] at h
          obtain ⟨ao', ha, rfl, rfl⟩ := h
          simp only [Bool.and_eq_true, ble_iff] at hb
          obtain ⟨i', z, hi', hz, hvz, hlen, hsz⟩ := zeroL_some hzl ρ
          rw [hi] at hi'; cases hi'
          have hel : e l = .int kl (ln : Int) := by
            have := hv l; rw [hl] at this; generalize e l = x at this ⊢; cases this; rfl
          have hec : e c = .int kc (cn : Int) := by
            have := hv c; rw [hc] at this; generalize e c = x at this ⊢; cases this; rfl
          have hbytes : (i.bytes : Int) * (cn : Int) ≤ 281474976710656 := by
            have h : ((i.bytes * cn : Nat) : Int) ≤ 281474976710656 := by omega
            rwa [Int.natCast_mul] at h
          have hrun := run_make (P := P) w t el i z ht hi hz kl kc (ln : Int) (cn : Int) (by omega) (by omega) hbytes (by omega)
          simp only [Int.toNat_natCast] at hrun
          refine ⟨.slice (some ⟨w.heap.size, 0, none⟩) ln cn, .cells (madeCells z.cells (cn * i.size)) el, 0, (madeCells z.cells (cn * i.size)).size, w.alloc (.cells (madeCells z.cells (cn * i.size)) el), run_v (by rw [hel, hec]; exact hrun), rfl, ⟨rfl, rfl, rfl⟩, ?_⟩
          intro id ρ' he hid
          refine ⟨mkRow_rel0 ha (by rw [zeroRow_toL, ← hsz, madeCells_toList]; exact (VRs_zeros hvz cn).ext he), ?_⟩
          by_cases hz0 : cn = 0
          · subst hz0
            have : ln = 0 := by omega
            subst this
            exact .slice0 _ _ _ _ _ (fun _ => rfl) (fun h => absurd rfl h)
          · exact .slice id 0 ln cn 0 cn _ hid (by omega) hb.1.1 (fun _ => rfl) (fun h => absurd rfl h)
      · cases h
    · cases h
  · rename_i t ho
    rw [ho]
    simp only [Option.some.injEq, Prod.mk.injEq] at h
    obtain ⟨rfl, rfl⟩ := h
    refine ⟨.map (some w.heap.size), .map #[] 0, 0, 0, w.alloc (.map #[] 0), run_v rfl, rfl, ⟨rfl, rfl, rfl⟩, ?_⟩
    intro id ρ' he hid
    exact ⟨⟨#[], 0, rfl, .nil, .nil, MapKept.stamped_empty 0⟩, .map id _ hid⟩
  · rename_i s d x ho
    rw [ho]
    split at h
    · rename_i el n b hs hd hx
      cases hu : isU8 P el with
      | false => rw [hu] at h; simp at h
      | true =>
        rw [hu] at h; simp only [cond_true, Option.map_eq_some_iff, Prod.mk.injEq] at h
        obtain ⟨ao', ha, rfl, rfl⟩ := h
        have hel : P.underlying el = some (.int .u8) := by
          unfold isU8 at hu; split at hu
          · assumption
          · simp at hu
        obtain ⟨str, hes, hstr⟩ : ∃ str : ByteArray, e x = .string str ∧ str.data.toList.map UInt8.toNat = bytesL b n := by
          have := hv x; rw [hx] at this; generalize e x = y at this ⊢
          cases this with | str _ _ s hs => exact ⟨s, rfl, hs⟩
        have hn : str.size = n := by
          have := congrArg List.length hstr
          rw [List.length_map, bytesL_length] at this
          rw [← this, ← ByteArray.size_data]; simp
        generalize hcap : (Question.appendCap str.size 0 el).cut (w.tape w.drawn (.appendCap str.size 0 el)) = cap
        have hcn : n ≤ cap := by
          rw [← hcap, ← hn]; simp only [Question.cut]; omega
        let C : Array Value := (str.data.map fun c => Value.int .u8 c.toNat) ++ Array.replicate (cap - str.size) (.int .u8 0)
        have hCs : C.size = cap := by simp [C]; omega
        refine ⟨.slice (some ⟨w.heap.size, 0, none⟩) n cap, .cells C el (cap, cap + 1), 0, cap, { w with heap := w.heap.push (.cells C el (cap, cap + 1)), drawn := w.drawn + 1 }, run_v ?_, rfl, ⟨rfl, rfl, rfl⟩, ?_⟩
        · rw [hes]
          simp only [convert, Sem.run_bind, run_underlying hs, run_underlying hd, run_underlying hel, Result.andThen_ok]
          simp only [Conv.stringToBytes, Sem.run_bind, run_choose, Question.forced, Bool.false_eq_true, if_false, Result.andThen_ok, newRow, run_newObj, Sem.run_pure, hcap, markStringish, run_shape, run_freeze]
          have hsh : World.shape? { w with heap := w.heap.push (.cells C el), drawn := w.drawn + 1 } w.heap.size = some (el, cap) := by
            simp [World.shape?, hCs]
          simp only [C] at hsh
          simp only [hsh]
          simp only [run_freeze, Result.andThen_ok, hn]
          congr 1
          simp only [World.freeze]
          simp only [Nat.succ_ne_zero, if_false, World.mk.injEq, and_true, true_and]
          rw [modify_eq _ _ (.cells C el) _ (by simp [C, hn])]
          apply Array.ext_getElem?
          intro k
          rw [Array.getElem?_setIfInBounds, Array.getElem?_push, Array.getElem?_push]
          by_cases hk : w.heap.size = k
          · subst hk; simp [C]
          · simp [hk, Ne.symm hk]
        · intro id ρ' he hid
          have hCl : C.toList = bytesV b n ++ List.replicate (cap - n) (.int .u8 0) := by
            simp only [C, Array.toList_append, Array.toList_map, Array.toList_replicate, hn]
            congr 1
            have : (str.data.toList.map fun c => Value.int .u8 (c.toNat : Int)) = (str.data.toList.map UInt8.toNat).map fun (x : Nat) => Value.int .u8 (x : Int) := by simp
            rw [this, hstr]
            rfl
          constructor
          · have := mkRow_rel (ρ := ρ') (b := w.heap.size) (e := el) (fz := (cap, cap + 1)) ha (vs := bytesV b n) (rest := List.replicate (cap - n) (.int .u8 0)) (VRs.bytes _ _ _) (by
              refine ⟨Nat.le_succ _, ?_⟩
              intro o ho
              simp only [bytesV_length, List.length_replicate] at ho
              have : ¬ cap ≤ o := by omega
              simp [this]) (fun y hy => by cases hy)
            rw [bytesV_length, List.length_replicate, show n + (cap - n) = cap by omega] at this
            have h2 : C = (bytesV b n ++ List.replicate (cap - n) (Value.int .u8 0)).toArray := by
              apply Array.ext'; simpa using hCl
            rw [h2]; exact this
          · by_cases hz0 : n = 0
            · subst hz0
              exact .slice0 _ _ _ _ _ (fun h => absurd h (by simp)) (fun _ => ⟨_, hid, rfl, rfl, Nat.zero_le _, by simp⟩)
            · exact .slice id 0 n n 1 cap _ hid (by omega) (Nat.le_refl _) (fun h => absurd h (by simp)) (fun _ => ⟨hcn, by simp⟩)
    · cases h
  · cases h

end
end Go.Ev
