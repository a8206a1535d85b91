/-
  The operations that read memory, and those that make a new block.
-/
import Derived.Test.YtiibpjahmhemmaaDoorEvH
import Derived.Laws.MakeOwn
import Derived.Laws.BytesString
namespace Go.Ev
open Go
noncomputable section

/-! ### Reading -/
def isU8 (P : Program) (e : TypeId) : Bool :=
  match P.underlying e with
  | some (.int .u8) => true
  | _ => false

def opRead (P : Program) (o : Op) (v : Operand → AV) (st : St) : Option AV :=
  match o with
  | .load t x => match v x with
    | .ptr i off => match aggN P t with
      | some (some n) => ((st.obj i).blk off n).map fun b => .agg b.toL
      | some none => (st.obj i).cell? off
      | none => none
    | _ => none
  | .convert s d x => match P.underlying s, P.underlying d with
    | some (.slice e), some .string => bif isU8 P e then match v x with
        | .snil => some (.str 0 0)
        | .slice i off len _ _ => bif Nat.beq len 0 then some (.str 0 0) else match (st.obj i).blk off len with
          | some b => b.pack.map fun m => .str len m
          | none => none
        | _ => none
      else none
    | _, _ => none
  | _ => none

theorem run_loadVar_agg {P : Program} {w : World} {t : TypeId} {n : Nat} (h : aggN P t = some (some n)) {a : Addr} {cs : List Value} (hl : cs.length = n)
    (hc : ∀ (j : Nat) (v : Value), cs[j]? = some v → w.cell? (a.add j) = some v) : (loadVar t a).run P w = .ok (.agg cs.toArray) w := by
  obtain ⟨h1, h2⟩ := aggN_some h w
  have := run_loadCells_list (P := P) w a cs hc
  rw [hl] at this
  simp [loadVar, h1, h2 n rfl, this]

theorem run_loadVar_one {P : Program} {w : World} {t : TypeId} (h : aggN P t = some none) {a : Addr} {v : Value} (hc : w.cell? a = some v) : (loadVar t a).run P w = .ok v w := by
  obtain ⟨h1, _⟩ := aggN_some h w
  simp [loadVar, h1, hc]

theorem foldl_push : ∀ (l : List Nat) (s : ByteArray), (∀ x ∈ l, x < 256) →
    ((l.map Int.ofNat).foldl (fun (r : ByteArray) (n : Int) => r.push (UInt8.ofNat n.toNat)) s).data.toList.map UInt8.toNat = s.data.toList.map UInt8.toNat ++ l := by
  intro l
  induction l with
  | nil => intro s _; simp
  | cons x l ih =>
    intro s hx
    simp only [List.map_cons, List.foldl_cons]
    rw [ih _ (fun y hy => hx y (by simp [hy]))]
    have : (UInt8.ofNat x).toNat = x := by
      have := hx x (by simp)
      simp; omega
    simp [ByteArray.data_push, this]

theorem bytesL_lt {m len x : Nat} (hx : x ∈ bytesL m len) : x < 256 := by
  obtain ⟨k, hk, rfl⟩ := List.getElem_of_mem hx
  have := bytesL_get len m k (by rwa [bytesL_length] at hk)
  rw [List.getElem?_eq_getElem hk] at this
  rw [Option.some.inj this]; exact byte_lt _ _

theorem run_bytesToString_of {P : Program} (w : World) (a : Addr) (len cap m : Nat) (h : ∀ (j : Nat) (v : Value), (bytesV m len)[j]? = some v → w.cell? (a.add j) = some v) :
    ∃ s, (Conv.bytesToString (.slice (some a) len cap)).run P w = .ok (.string s) w ∧ s.data.toList.map UInt8.toNat = bytesL m len := by
  have hl := run_loadCells_list (P := P) w a (bytesV m len) h
  rw [bytesV_length] at hl
  have he : bytesV m len = ((bytesL m len).map Int.ofNat).map (Value.int .u8) := by simp [bytesV, List.map_map]
  rw [he] at hl
  refine ⟨_, run_bytesToString w a len cap _ hl, ?_⟩
  rw [foldl_push _ _ (fun x hx => bytesL_lt hx)]
  simp

theorem opRead_sound {P : Program} {ρ : Ren} {o : Oper} {v : Operand → AV} {e : Operand → Value} {r : AV} {st : St} {w : World} (h : opRead P o.op v st = some r)
    (hv : ∀ x, VR ρ (v x) (e x)) (hR : Rel ρ st w) : ∃ z, (execOp e o).run P w = .ok (.value z) w ∧ VR ρ r z := by
  unfold execOp
  unfold opRead at h
  split at h
  · rename_i t x ho
    rw [ho]
    have hx' := hv x
    split at h
    · rename_i i off hx
      rw [hx] at hx'
      obtain ⟨L, hea, hL⟩ : ∃ L : Loc, e x = .pointer (some (L.at off)) ∧ ρ i = some L := by
        generalize e x = ex at hx'
        cases hx' with | ptr _ _ L hL => exact ⟨L, rfl, hL⟩
      split at h
      · rename_i n hn
        simp only [Option.map_eq_some_iff] at h
        obtain ⟨b, hb, rfl⟩ := h
        obtain ⟨L', hL', vs, h1, h2, h3, _⟩ := hR.blk hb
        rw [hL] at hL'; cases hL'
        refine ⟨.agg vs.toArray, run_v ?_, .agg _ _ (by simpa using h1)⟩
        rw [hea]
        simp only [Instr.loadAt, Instr.sureAddr, Sem.run_bind, Sem.run_pure, Result.andThen_ok]
        exact run_loadVar_agg hn h2 (fun j u hj => by rw [L.at_add]; exact h3 j u hj)
      · rename_i hn
        obtain ⟨L', hL', u, h1, h2⟩ := hR.cell h
        rw [hL] at hL'; cases hL'
        refine ⟨u, run_v ?_, h2⟩
        rw [hea]
        simp only [Instr.loadAt, Instr.sureAddr, Sem.run_bind, Sem.run_pure, Result.andThen_ok]
        exact run_loadVar_one hn h1
      · cases h
    · cases h
  · rename_i s d x ho
    rw [ho]
    have hx' := hv x
    split at h
    · rename_i el hs hd
      cases hu : isU8 P el with
      | false => rw [hu] at h; simp at h
      | true =>
        rw [hu] at h; simp only [cond_true] at h
        have hel : P.underlying el = some (.int .u8) := by
          unfold isU8 at hu; split at hu
          · assumption
          · simp at hu
        have hconv : ∀ y : Value, (match y with | .slice .. => True | _ => False) → (convert s d y).run P w = (Conv.bytesToString y).run P w := by
          intro y hy
          cases y <;> simp at hy
          rename_i a l c
          simp only [convert, Sem.run_bind, run_underlying hs, run_underlying hd, run_underlying hel, Result.andThen_ok]
        split at h
        · rename_i hx
          rw [hx] at hx'
          cases h
          have hea : e x = .slice none 0 0 := by generalize e x = ex at hx'; cases hx'; rfl
          refine ⟨.string .empty, run_v ?_, .str _ _ _ rfl⟩
          rw [hea, hconv _ trivial]; rfl
        · rename_i i off len cap op hx
          rw [hx] at hx'
          cases hz : Nat.beq len 0 with
          | true =>
            rw [hz] at h; simp only [cond_true, Option.some.injEq] at h; subst h
            have hlen := beq_iff.1 hz
            subst hlen
            obtain ⟨a, c, hea⟩ : ∃ a c, e x = .slice (some a) 0 c := by
              generalize e x = ex at hx'; cases hx' <;> exact ⟨_, _, rfl⟩
            refine ⟨.string .empty, run_v ?_, .str _ _ _ rfl⟩
            rw [hea, hconv _ trivial]
            simp [Conv.bytesToString, loadCells, loadCellsFrom]
          | false =>
            rw [hz] at h; simp only [cond_false] at h
            have hlen : len ≠ 0 := fun e => by rw [e] at hz; simp at hz
            split at h
            · rename_i b hb
              simp only [Option.map_eq_some_iff] at h
              obtain ⟨m, hm, rfl⟩ := h
              obtain ⟨L', hL', vs, h1, h2, h3, h4⟩ := hR.blk hb
              obtain ⟨c, hea⟩ : ∃ c, e x = .slice (some (L'.at off)) len c := by
                generalize e x = ex at hx'
                cases hx' with
                | slice _ _ _ _ _ cap' L hL => rw [hL] at hL'; cases hL'; exact ⟨cap', rfl⟩
                | slice0 => exact absurd rfl hlen
              rw [Blk.pack_eq hm, h4] at h1
              have hvs := VRs_bytesA h1
              obtain ⟨str, hs1, hs2⟩ := run_bytesToString_of (P := P) w (L'.at off) len c m (fun j u hj => by rw [L'.at_add]; exact h3 j u (by rw [hvs]; exact hj))
              exact ⟨.string str, run_v (by rw [hea, hconv _ trivial]; exact hs1), .str _ _ _ hs2⟩
            · cases h
        · cases h
    · cases h
  · cases h

end
end Go.Ev
