/-
  chanceryref03's disk as a value.
  chancery/disk: New, Fail, Durable: what each call does.
-/
import Derived.Test.YtecnddogdiikiaaGreatF2
import Derived.Deep.RegionHeld3
import Derived.Deep.OwnRows
set_option linter.unusedVariables false
set_option linter.unusedSimpArgs false
namespace Go.Proofs.YtecnddogdiikiaaGreat
open Go Go.RowKit
set_option maxRecDepth 100000
set_option maxHeartbeats 1600000

/-- a block's bytes, in memory from block lo on -/
def Hb (w : World) (lo : Nat) (v : Value) (l : List UInt8) : Prop := ∃ b o c, v = .slice (some ⟨b, o, none⟩) 4096 c ∧ lo ≤ b ∧ b < w.heap.size ∧ l.length = 4096 ∧ 4096 ≤ c ∧ (∀ k (h : k < l.length), w.cell? ⟨b, o + k, none⟩ = some (u8V l[k])) ∧ ∃ x, w.heap[b]? = some (Obj.cells x 5 (0, 0))
/-- all blocks from lo on lie as they lay -/
structure Up (lo : Nat) (w w' : World) : Prop where
  size : w.heap.size ≤ w'.heap.size
  same : ∀ k, lo ≤ k → k < w.heap.size → w'.heap[k]? = w.heap[k]?
theorem Up.refl (lo : Nat) (w : World) : Up lo w w := ⟨Nat.le_refl _, fun _ _ _ => rfl⟩
theorem Up.trans {lo : Nat} {a b c : World} (h : Up lo a b) (g : Up lo b c) : Up lo a c := ⟨Nat.le_trans h.size g.size, fun k h1 h2 => (g.same k h1 (Nat.lt_of_lt_of_le h2 h.size)).trans (h.same k h1 h2)⟩
theorem Up.below {lo : Nat} {a b : World} (h : Below a.heap.size a b) : Up lo a b := ⟨h.size, fun k _ hk => h.block k hk⟩
theorem Up.cell {lo : Nat} {w w' : World} (h : Up lo w w') {b o : Nat} (h1 : lo ≤ b) (h2 : b < w.heap.size) : w'.cell? ⟨b, o, none⟩ = w.cell? ⟨b, o, none⟩ := by simp [World.cell?, h.same b h1 h2]

section
variable {w w' : World} {lo : Nat} {v : Value} {l : List UInt8}
theorem Hb.same (h : Hb w lo v l) (hb : Up lo w w') : Hb w' lo v l := by
  obtain ⟨b, o, c, rfl, h1, h2, h3, hc, h4, x, hx⟩ := h
  exact ⟨b, o, c, rfl, h1, Nat.lt_of_lt_of_le h2 hb.size, h3, hc, fun k hk => (hb.cell h1 h2).trans (h4 k hk), x, (hb.same b h1 h2).trans hx⟩
theorem Hb.rd (h : Hb w lo v l) : ∃ b o c, v = .slice (some ⟨b, o, none⟩) 4096 c ∧ l.length = 4096 ∧ 4096 ≤ c ∧ Rd w w.heap.size (some ⟨b, o, none⟩) l := by
  obtain ⟨b, o, c, rfl, h1, h2, h3, hc, h4, -⟩ := h
  exact ⟨b, o, c, rfl, h3, hc, fun _ => ⟨b, o, rfl, h2, h4⟩⟩
theorem Hb.len (h : Hb w lo v l) : l.length = 4096 := by
  obtain ⟨b, o, c, rfl, h1, h2, h3, hc, h4, -⟩ := h
  exact h3
theorem Hb.of_own {base : Nat} (h : Own w base v l) (hl : l.length = 4096) (hb : lo ≤ base) : Hb w lo v l := by
  have h' := h
  rcases h.form with ⟨_, rfl⟩ | ⟨g, cap, rfl, h1, h2, hc, _, h4⟩
  · simp at hl
  · rcases h'.2 with ⟨e, _⟩ | ⟨g', cap', cur, e, _, hx, _⟩
    · cases e
    · injection e with e
      injection e with e
      injection e with e
      subst e
      rw [hl]
      exact ⟨g, 0, cap, rfl, Nat.le_trans hb h1, h2, hl, by omega, fun k hk => by rw [Nat.zero_add]; exact h4 k hk, cur, hx⟩
theorem Hb.of_bk {g : Nat} (h : Bk w (.slice (some ⟨g, 0, none⟩) 4096 4096) l) (hb : lo ≤ g) : Hb w lo (.slice (some ⟨g, 0, none⟩) 4096 4096) l := by
  obtain ⟨g', e, hg, hl⟩ := h
  cases e
  exact ⟨g, 0, 4096, rfl, hb, hlt hg, hl, Nat.le_refl _, fun k hk => by simp [World.cell?, hg, hk], _, hg⟩
end

/-- the blocks -/
def Rrow (w : World) (lo : Nat) (v : Value) (bs : List (List UInt8)) : Prop :=
  ∃ g o c, v = .slice (some ⟨g, o, none⟩) bs.length c ∧ lo ≤ g ∧ g < w.heap.size ∧ (∀ k (h : k < bs.length), ∃ u, w.cell? ⟨g, o + k, none⟩ = some u ∧ Hb w lo u bs[k]) ∧ ∃ x, w.heap[g]? = some (Obj.cells x 37 (0, 0))
/-- the unsynced writes -/
def Rws (w : World) (lo : Nat) (v : Value) (ws : List (Nat × List UInt8)) : Prop :=
  ∃ A c, v = .slice A ws.length c ∧ (ws = [] → A = none ∧ c = 0) ∧ (ws ≠ [] → ∃ g o us, A = some ⟨g, o, none⟩ ∧ lo ≤ g ∧ g < w.heap.size ∧ us.length = ws.length ∧ (∀ j u, (wc ws us)[j]? = some u → w.cell? ⟨g, o + j, none⟩ = some u) ∧ (∀ k (h : k < us.length) (h' : k < ws.length), Hb w lo us[k] ws[k].2) ∧ ∃ x, w.heap[g]? = some (Obj.cells x 242 (0, 0)))
/-- a disk's value -/
def Rv (w : World) (lo : Nat) (v : Value) (P : PD) : Prop :=
  ∃ x y, v = .agg #[x, y, .bool false, .int .i64 (-1), .int .i64 P.ft, .int .i64 P.wh] ∧ Rrow w lo x P.bs ∧ Rws w lo y P.ws ∧ P.Ok

section
variable {w w' : World} {lo : Nat} {v : Value}
theorem Rrow.same {bs : List (List UInt8)} (h : Rrow w lo v bs) (hb : Up lo w w') : Rrow w' lo v bs := by
  obtain ⟨g, o, c, rfl, h1, h2, h3, x, hx⟩ := h
  exact ⟨g, o, c, rfl, h1, Nat.lt_of_lt_of_le h2 hb.size, fun k hk => by obtain ⟨u, a, b⟩ := h3 k hk; exact ⟨u, (hb.cell h1 h2).trans a, b.same hb⟩, x, (hb.same g h1 h2).trans hx⟩
theorem Rws.same {ws : List (Nat × List UInt8)} (h : Rws w lo v ws) (hb : Up lo w w') : Rws w' lo v ws := by
  obtain ⟨A, c, rfl, hn, h⟩ := h
  refine ⟨A, c, rfl, hn, fun hne => ?_⟩
  obtain ⟨g, o, us, rfl, h1, h2, h3, h4, h5, x, hx⟩ := h hne
  exact ⟨g, o, us, rfl, h1, Nat.lt_of_lt_of_le h2 hb.size, h3, fun j u hu => (hb.cell h1 h2).trans (h4 j u hu), fun k a b => (h5 k a b).same hb, x, (hb.same g h1 h2).trans hx⟩
theorem Rws.nil (w : World) (lo : Nat) : Rws w lo (.slice none 0 0) [] := ⟨none, 0, rfl, fun _ => ⟨rfl, rfl⟩, fun h => absurd rfl h⟩
theorem Rv.same {P : PD} (h : Rv w lo v P) (hb : Up lo w w') : Rv w' lo v P := by
  obtain ⟨x, y, rfl, h1, h2, h3⟩ := h
  exact ⟨x, y, rfl, h1.same hb, h2.same hb, h3⟩
theorem Rws.at_ {ws : List (Nat × List UInt8)} (h : Rws w lo v ws) {k : Nat} (hk : k < ws.length) : ∃ g o c u, v = .slice (some ⟨g, o, none⟩) ws.length c ∧ lo ≤ g ∧ g < w.heap.size ∧ w.cell? ⟨g, o + k * 2, none⟩ = some (.int .i64 (ws[k].1 : Int)) ∧ w.cell? ⟨g, o + (k * 2 + 1), none⟩ = some u ∧ Hb w lo u ws[k].2 := by
  obtain ⟨A, c, rfl, -, h⟩ := h
  obtain ⟨g, o, us, rfl, h1, h2, h3, h4, h5, -⟩ := h (by rintro rfl; simp at hk)
  obtain ⟨a, b⟩ := wc_at ws us k hk (by omega)
  exact ⟨g, o, c, us[k], rfl, h1, h2, h4 _ _ a, h4 _ _ b, h5 k (by omega) hk⟩

/-- all rows of bytes, of blocks, of writes lie as they lay -/
structure Tk (w w' : World) : Prop where
  size : w.heap.size ≤ w'.heap.size
  same : ∀ (g : Nat) (x : Array Value) (t : TypeId), (t = 5 ∨ t = 37 ∨ t = 242) → w.heap[g]? = some (Obj.cells x t (0, 0)) → w'.heap[g]? = w.heap[g]?
theorem Tk.cell {w w' : World} (h : Tk w w') {g o : Nat} {x : Array Value} {t : TypeId} (ht : t = 5 ∨ t = 37 ∨ t = 242) (hx : w.heap[g]? = some (Obj.cells x t (0, 0))) : w'.cell? ⟨g, o, none⟩ = w.cell? ⟨g, o, none⟩ := by simp [World.cell?, h.same g x t ht hx]
theorem Tk.of_put {w w' : World} {k : Nat} {C : Array Value} {t0 : TypeId} (hk : w.heap[k]? = some (Obj.cells C t0 (0, 0))) (ht : ¬ (t0 = 5 ∨ t0 = 37 ∨ t0 = 242)) (ho : ∀ j, j ≠ k → w'.heap[j]? = w.heap[j]?) (hs : w.heap.size ≤ w'.heap.size) : Tk w w' :=
  ⟨hs, fun g x t h hx => ho g fun e => by subst e; rw [hk] at hx; cases hx; exact ht h⟩
theorem Tk.trans {a b c : World} (h : Tk a b) (g : Tk b c) : Tk a c := ⟨Nat.le_trans h.size g.size, fun k x t ht hx => (g.same k x t ht ((h.same k x t ht hx).trans hx)).trans (h.same k x t ht hx)⟩
theorem Tk.below {a b : World} (h : Below a.heap.size a b) : Tk a b := ⟨h.size, fun g _ _ _ hx => h.block g (hlt hx)⟩
theorem Hb.tk {l : List UInt8} (h : Hb w lo v l) (hb : Tk w w') : Hb w' lo v l := by
  obtain ⟨b, o, c, rfl, h1, h2, h3, hc, h4, x, hx⟩ := h
  exact ⟨b, o, c, rfl, h1, Nat.lt_of_lt_of_le h2 hb.size, h3, hc, fun k hk => (hb.cell (.inl rfl) hx).trans (h4 k hk), x, (hb.same b x 5 (.inl rfl) hx).trans hx⟩
theorem Rrow.tk {bs : List (List UInt8)} (h : Rrow w lo v bs) (hb : Tk w w') : Rrow w' lo v bs := by
  obtain ⟨g, o, c, rfl, h1, h2, h3, x, hx⟩ := h
  exact ⟨g, o, c, rfl, h1, Nat.lt_of_lt_of_le h2 hb.size, fun k hk => by obtain ⟨u, a, b⟩ := h3 k hk; exact ⟨u, (hb.cell (.inr (.inl rfl)) hx).trans a, b.tk hb⟩, x, (hb.same g x 37 (.inr (.inl rfl)) hx).trans hx⟩
theorem Rws.tk {ws : List (Nat × List UInt8)} (h : Rws w lo v ws) (hb : Tk w w') : Rws w' lo v ws := by
  obtain ⟨A, c, rfl, hn, h⟩ := h
  refine ⟨A, c, rfl, hn, fun hne => ?_⟩
  obtain ⟨g, o, us, rfl, h1, h2, h3, h4, h5, x, hx⟩ := h hne
  exact ⟨g, o, us, rfl, h1, Nat.lt_of_lt_of_le h2 hb.size, h3, fun j u hu => (hb.cell (.inr (.inr rfl)) hx).trans (h4 j u hu), fun k a b => (h5 k a b).tk hb, x, (hb.same g x 242 (.inr (.inr rfl)) hx).trans hx⟩
theorem Rv.tk {P : PD} (h : Rv w lo v P) (hb : Tk w w') : Rv w' lo v P := by
  obtain ⟨x, y, rfl, h1, h2, h3⟩ := h
  exact ⟨x, y, rfl, h1.tk hb, h2.tk hb, h3⟩
end
end Go.Proofs.YtecnddogdiikiaaGreat

namespace Go.Proofs.YtecnddogdiikiaaGreat
open Go Go.RowKit
set_option maxRecDepth 100000
set_option maxHeartbeats 1600000

theorem cellD {w : World} {d : Nat} {cs : Array Value} {t : TypeId} {z : Nat × Nat} (h : w.heap[d]? = some (.cells cs t z)) (k : Nat) : w.cell? ⟨d, k, none⟩ = cs[k]? := by simp [World.cell?, h]
theorem frozenD {w : World} {d : Nat} {cs : Array Value} {t : TypeId} (h : w.heap[d]? = some (.cells cs t (0, 0))) (k : Nat) : w.frozen? ⟨d, k, none⟩ = false := by simp [World.frozen?, h]

theorem disarm_any {w : World} {d : Nat} {a0 a1 a2 a3 a4 a5 a6 : Value} (hg : w.heap[d]? = some (.cells #[a0, a1, a2, a3, a4, a5, a6] 93 (0, 0))) :
    Calls Tryz.prog 57 #[.pointer (some ⟨d, 0, none⟩)] w fun e w' => e = .returned (.tuple #[]) ∧ w'.heap[d]? = some (.cells #[a0, a1, a2, a3, .int .i64 (-1), .int .i64 (-1), .int .i64 0] 93 (0, 0)) ∧ Kp (· = d) w w' := by
  have g1 : (w.setCell ⟨d, 4, none⟩ (.int .i64 (-1))).heap[d]? = some (.cells #[a0, a1, a2, a3, .int .i64 (-1), a5, a6] 93 (0, 0)) := by rw [heap_setCell_same w d 4 _ _ _ hg]; rfl
  have k1 : Kp (· = d) w (w.setCell ⟨d, 4, none⟩ (.int .i64 (-1))) := Kp.setCell (S := (· = d)) w (p := ⟨d, 4, none⟩) rfl _
  have s1 : Calls Tryz.prog 40 #[.pointer (some ⟨d, 4, none⟩), .int .i64 (-1)] w fun e w' => e = .returned (.tuple #[]) ∧ w' = w.setCell ⟨d, 4, none⟩ (.int .i64 (-1)) := Store_any _ (cellD hg 4) (frozenD hg 4)
  generalize w.setCell ⟨d, 4, none⟩ (.int .i64 (-1)) = w1 at g1 k1 s1
  have g2 : (w1.setCell ⟨d, 5, none⟩ (.int .i64 (-1))).heap[d]? = some (.cells #[a0, a1, a2, a3, .int .i64 (-1), .int .i64 (-1), a6] 93 (0, 0)) := by rw [heap_setCell_same w1 d 5 _ _ _ g1]; rfl
  have k2 : Kp (· = d) w (w1.setCell ⟨d, 5, none⟩ (.int .i64 (-1))) := k1.then (Kp.setCell (S := (· = d)) w1 (p := ⟨d, 5, none⟩) rfl _)
  have s2 : Calls Tryz.prog 40 #[.pointer (some ⟨d, 5, none⟩), .int .i64 (-1)] w1 fun e w' => e = .returned (.tuple #[]) ∧ w' = w1.setCell ⟨d, 5, none⟩ (.int .i64 (-1)) := Store_any _ (cellD g1 5) (frozenD g1 5)
  generalize w1.setCell ⟨d, 5, none⟩ (.int .i64 (-1)) = w2 at g2 k2 s2
  have c6 : w2.cell? ⟨d, 6, none⟩ = some a6 := cellD g2 6
  have z6 : w2.frozen? ⟨d, 6, none⟩ = false := frozenD g2 6
  have g3 : (w2.setCell ⟨d, 6, none⟩ (.int .i64 0)).heap[d]? = some (.cells #[a0, a1, a2, a3, .int .i64 (-1), .int .i64 (-1), .int .i64 0] 93 (0, 0)) := by rw [heap_setCell_same w2 d 6 _ _ _ g2]; rfl
  have k3 : Kp (· = d) w (w2.setCell ⟨d, 6, none⟩ (.int .i64 0)) := k2.then (Kp.setCell (S := (· = d)) w2 (p := ⟨d, 6, none⟩) rfl _)
  clear g1 k1 g2 k2
  go_enter Tryz.func57, Tryz.ntmps57
  go_wp2_with (first
    | (go_at_call 40; refine s1.mono ?_; rintro e w1 ⟨rfl, rfl⟩)
    | (go_at_call 40; refine s2.mono ?_; rintro e w1 ⟨rfl, rfl⟩))
  go_end0
  exact ⟨rfl, g3, k3⟩

theorem begun_any {w : World} {db n : Nat} {cs : Array Value} (hdb : w.heap[db]? = some (.cells cs 37 (0, 0))) :
    Calls Tryz.prog 22 #[.slice (some ⟨db, 0, none⟩) n n] w fun e w' => (∃ d, e = .returned (.pointer (some ⟨d, 0, none⟩)) ∧ DB w' d db n (.slice none 0 0) (-1) 0 ∧ w.heap.size ≤ d) ∧ Below w.heap.size w w' := by
  obtain ⟨o, ho⟩ : ∃ o : Obj, o = .cells #[.pointer (some ⟨w.heap.size, 0, none⟩), .slice (some ⟨db, 0, none⟩) n n, .slice none 0 0, .bool false, .int .i64 0, .int .i64 0, .int .i64 0] 93 (0, 0) := ⟨_, rfl⟩
  have g1 := heap_alloc_new w o
  have b1 : Below w.heap.size w (w.alloc o) := (Below.refl _ _).alloc (Nat.le_refl _) _
  rw [ho] at g1 b1
  have D := disarm_any g1
  go_enter Tryz.func22, Tryz.ntmps22
  go_wp2_with (go_at_call 57; refine D.mono ?_; rintro e w1 ⟨rfl, hD, hK⟩)
  go_ret
  exact ⟨⟨w.heap.size, rfl, hD, Nat.le_refl _⟩, b1.trans (hK.below b1.size fun k hk => by omega)⟩

theorem fail_any {w : World} {n0 d db : Nat} {pv : Value} {P : PD} (h : Dk w n0 d db pv P) (f : Nat) (hf : f ≤ 1000) :
    Calls Tryz.prog 18 #[.pointer (some ⟨d, 0, none⟩), .int .i64 (f : Int), .int .i64 5] w fun e w' => e = .returned (.int .i64 0) ∧ Dk w' n0 d db pv { P with ft := f, wh := 5 } ∧ Fr n0 d db w w' := by
  obtain ⟨c0, c1, c2, c3, c4, c5, c6⟩ := h.box.cells
  have g1 : DB (w.setCell ⟨d, 5, none⟩ (.int .i64 (f : Int))) d db P.bs.length pv f P.wh := h.box.setF _
  have k1 : Kp (· = d) w (w.setCell ⟨d, 5, none⟩ (.int .i64 (f : Int))) := Kp.setCell (S := (· = d)) w (p := ⟨d, 5, none⟩) rfl _
  have s1 : Calls Tryz.prog 40 #[.pointer (some ⟨d, 5, none⟩), .int .i64 (f : Int)] w fun e w' => e = .returned (.tuple #[]) ∧ w' = w.setCell ⟨d, 5, none⟩ (.int .i64 (f : Int)) := Store_any _ c5 (h.box.frozen 5)
  generalize w.setCell ⟨d, 5, none⟩ (.int .i64 (f : Int)) = w1 at g1 k1 s1
  have c6' := (g1.cells).2.2.2.2.2.2
  have z6 := g1.frozen 6
  have g2 : DB (w1.setCell ⟨d, 6, none⟩ (.int .i64 5)) d db P.bs.length pv f 5 := by unfold DB at *; rw [heap_setCell_same w1 d 6 _ _ _ g1]; rfl
  have k2 : Kp (· = d) w (w1.setCell ⟨d, 6, none⟩ (.int .i64 5)) := k1.then (Kp.setCell (S := (· = d)) w1 (p := ⟨d, 6, none⟩) rfl _)
  have D1 : Dk (w1.setCell ⟨d, 6, none⟩ (.int .i64 5)) n0 d db pv { P with ft := f, wh := 5 } := h.turnW g2 k2 (by omega) (by omega)
  have F1 : Fr n0 d db w (w1.setCell ⟨d, 6, none⟩ (.int .i64 5)) := Fr.of_d k2
  have M := made_any h.box
  clear g1 k1 g2 k2 h
  go_enter Tryz.func18, Tryz.ntmps18
  go_wp2_with (first
    | (go_at_call 39; refine M.mono ?_; rintro e w1 ⟨rfl, rfl⟩)
    | (go_at_call 40; refine s1.mono ?_; rintro e w1 ⟨rfl, rfl⟩))
  all_goals first | omega | skip
  go_ret
  exact ⟨rfl, D1, F1⟩

theorem durable_any {w : World} {n0 d db : Nat} {pv : Value} {P : PD} (h : Dk w n0 d db pv P) (b : Nat) (hb : b < P.bs.length) :
    Calls Tryz.prog 50 #[.pointer (some ⟨d, 0, none⟩), .int .i64 (b : Int)] w fun e w' => (∃ g, e = .returned (.tuple #[.slice (some ⟨g, 0, none⟩) 4096 4096, .int .i64 0]) ∧ Bk w' (.slice (some ⟨g, 0, none⟩) 4096 4096) P.bs[b] ∧ w.heap.size ≤ g) ∧ Below w.heap.size w w' := by
  obtain ⟨c0, c1, -⟩ := h.box.cells
  have A := asked_any h.box b hb
  obtain ⟨cs, hr1, hr2, hr3⟩ := h.row
  obtain ⟨u, hu, hd⟩ := hr3 b hb
  have cu : w.cell? ⟨db, b, none⟩ = some u := (cellD hr1 b).trans hu
  have W := whole_db hd
  clear h hr1 hr2 hr3 hd
  go_enter Tryz.func50, Tryz.ntmps50
  go_wp2_with (first
    | (go_at_call 35; refine A.mono ?_; rintro e w1 ⟨rfl, rfl⟩)
    | (go_at_call 37; refine W.mono ?_; rintro e w1 ⟨⟨u1, rfl, hB, g, rfl, hg⟩, hb1⟩))
  all_goals first | omega | skip
  go_ret2
  exact ⟨⟨g, rfl, hB, hg⟩, hb1⟩

theorem info37 : (Tryz.prog.info? 37).map (fun i => (i.zero, i.size, i.bytes)) = some (some (.slice none 0 0), 1, 24) := by kernel_rfl
theorem mkB (w : World) (n : Nat) (hn : n ≤ 4096) : (Instr.makeSlice 45 (.int .i64 (n : Int)) (.int .i64 (n : Int))).run Tryz.prog w = .ok (.slice (some ⟨w.heap.size, 0, none⟩) n n) (w.alloc (.cells (madeCells #[.slice none 0 0] n) 37)) :=
  run_make_row' (P := Tryz.prog) 45 37 (.slice none 0 0) 24 Tryz.underlying45 info37 rfl .i64 .i64 n (by omega) (by omega) w
theorem madeB_get (n k : Nat) (h : k < n) : (madeCells #[.slice none 0 0] n)[k]? = some (.slice none 0 0) := by
  simp [madeCells, h, Nat.mod_one]

theorem new_any (w : World) (n : Nat) (h1 : 1 ≤ n) (h2 : n ≤ 4096) :
    Calls Tryz.prog 5 #[.int .i64 (n : Int)] w fun e w' => (∃ d db, e = .returned (.tuple #[.pointer (some ⟨d, 0, none⟩), .int .i64 0]) ∧ Dk w' w'.heap.size d db (.slice none 0 0) ⟨List.replicate n zs, [], -1, 0⟩ ∧ w.heap.size ≤ d ∧ w.heap.size ≤ db) ∧ Below w.heap.size w w' := by
  have M := mkB w n h2
  have g1 := heap_alloc_new w (.cells (madeCells #[.slice none 0 0] n) 37)
  have b1 : Below w.heap.size w (w.alloc (.cells (madeCells #[.slice none 0 0] n) 37)) := (Below.refl _ _).alloc (Nat.le_refl _) _
  have B := begun_any (n := n) g1
  generalize w.alloc (.cells (madeCells #[.slice none 0 0] n) 37) = w1 at M g1 b1 B
  have hz : w.heap.size < w1.heap.size := hlt g1
  go_enter Tryz.func5, Tryz.ntmps5
  go_wp2_with (go_at_call 22; refine B.mono ?_; rintro e w2 ⟨⟨d, rfl, hD, hd⟩, hb⟩)
  all_goals first | omega | skip
  go_ret2
  refine ⟨⟨d, w.heap.size, rfl, ⟨?_, ⟨madeCells #[.slice none 0 0] n, (hb.block _ hz).trans g1, by simp [madeCells], ?_⟩, Pn.nil _ _, ⟨?_, ?_, ?_, ?_⟩, Nat.le_refl _⟩, by omega, Nat.le_refl _⟩, b1.trans (hb.mono (by omega))⟩
  · simpa using hD
  · intro k hk
    refine ⟨_, madeB_get n k (by simpa using hk), .inr ⟨rfl, ?_⟩⟩
    simp
  · intro l hl
    simp only [List.mem_replicate] at hl
    rw [hl.2]; exact zs_len
  · intro x hx; cases hx
  · show (-1 : Int) ≤ -1; omega
  · show (-1 : Int) ≤ 1000; omega

end Go.Proofs.YtecnddogdiikiaaGreat

