/-
  stamp.Seal, stamp.Of: what each call does.
  revive.put and putHead: what each call does.
-/
import Derived.Test.YtecnddogdiikiaaGreatD3
import Derived.Test.YtecnddogdiikiaaGreatHSome
import Derived.Laws.Cover3
import Derived.Test.YtecnddogdiikiaaGreatHOf
set_option linter.unusedVariables false
set_option linter.unusedSimpArgs false
namespace Go.Proofs.YtecnddogdiikiaaGreat
open Go Go.RowKit
set_option maxRecDepth 100000
set_option maxHeartbeats 1600000

theorem of0 (w : World) : Calls Tryz.prog 29 #[.int .i64 1, .int .i64 0] w fun e w' => e = .returned (.int .u64 4294967296) ∧ w' = w := by
  go_enter Tryz.func29, Tryz.ntmps29
  go_wp2
  go_ret
  exact ⟨rfl, rfl⟩
theorem of1 (w : World) : Calls Tryz.prog 29 #[.int .i64 1, .int .i64 1] w fun e w' => e = .returned (.int .u64 4294967297) ∧ w' = w := by
  go_enter Tryz.func29, Tryz.ntmps29
  go_wp2
  go_ret
  exact ⟨rfl, rfl⟩

theorem le8 (s : Nat) : le 8 s = [leB s 0, leB s 1, leB s 2, leB s 3, leB s 4, leB s 5, leB s 6, leB s 7] := rfl
theorem Own.eight {w : World} {base g c s : Nat} (h : Own w base (.slice (some ⟨g, 0, none⟩) 8 c) (le 8 s)) : w.cell? ⟨g, 0, none⟩ = some (u8V (leB s 0)) ∧ w.cell? ⟨g, 1, none⟩ = some (u8V (leB s 1)) ∧ w.cell? ⟨g, 2, none⟩ = some (u8V (leB s 2)) ∧ w.cell? ⟨g, 3, none⟩ = some (u8V (leB s 3)) ∧
    w.cell? ⟨g, 4, none⟩ = some (u8V (leB s 4)) ∧ w.cell? ⟨g, 5, none⟩ = some (u8V (leB s 5)) ∧ w.cell? ⟨g, 6, none⟩ = some (u8V (leB s 6)) ∧ w.cell? ⟨g, 7, none⟩ = some (u8V (leB s 7)) := by
  rcases h.form with ⟨e, _⟩ | ⟨g', cap, e, _, _, _, _, hc⟩
  · cases e
  · cases e
    exact ⟨hc 0 (by simp [le_len]), hc 1 (by simp [le_len]), hc 2 (by simp [le_len]), hc 3 (by simp [le_len]), hc 4 (by simp [le_len]), hc 5 (by simp [le_len]), hc 6 (by simp [le_len]), hc 7 (by simp [le_len])⟩
theorem Own.gform {w : World} {base s : Nat} {v : Value} (h : Own w base v (le 8 s)) : ∃ g c, v = .slice (some ⟨g, 0, none⟩) 8 c := by
  rcases h.form with ⟨_, e⟩ | ⟨g', cap, e, _⟩
  · simp [le8] at e
  · exact ⟨g', cap, e⟩

theorem at184 (g o n c : Nat) (w : World) (hn : 8 ≤ n) : (Instr.arrayAt 184 (.slice (some ⟨g, o, none⟩) n c)).run Tryz.prog w = .ok (.pointer (some ⟨g, o, none⟩)) w := run_arrayAt (P := Tryz.prog) w 184 5 8 _ n c Tryz.underlying184 hn
theorem cpAt {w : World} {g o n cp L c : Nat} {ad : Addr} {xs l : List UInt8} (hf : w.heap[g]? = some (.cells (xs.map u8V).toArray 5 (0, 0))) (hL : L = l.length) (hsrc : ∀ j v, (l.map u8V)[j]? = some v → w.cell? (ad.add j) = some v) (hn : l.length ≤ n) (hfit : o + l.length ≤ xs.length) :
    ∃ w6, (Builtin.copy_ #[37, 37] 3 #[.slice (some ⟨g, o, none⟩) n cp, .slice (some ad) L c]).run Tryz.prog w = .ok (goInt (l.map u8V).length) w6 ∧ w6.heap[g]? = some (.cells ((xs.take o ++ l ++ xs.drop (o + l.length)).map u8V).toArray 5 (0, 0)) ∧ (∀ k, k ≠ g → w6.heap[k]? = w.heap[k]?) ∧ (∀ B, B ≤ g → Below B w w6) := by
  have hcp := run_copy_row (P := Tryz.prog) w 37 37 3 5 g o n cp ad L c _ 5 (l.map u8V) Tryz.underlying37 size5 hf (by rw [List.length_map, ← hL]; exact (Nat.min_eq_left (by omega)).symm) hsrc (by simp; omega) (by intro v hv; simp at hv; obtain ⟨_, _, rfl⟩ := hv; rfl)
  refine ⟨_, hcp, (setRow_heap _ _ _ _ _ _ hf).trans ?_, fun k hk => setRow_other w g k _ hk, fun B hB => below_setRow (Below.refl _ _) hB _⟩
  congr 3
  simp [List.map_take, List.map_drop]
theorem cells8 {w : World} {g : Nat} {s : Nat} {t : TypeId} (h : w.heap[g]? = some (.cells ((le 8 s).map u8V).toArray t (0, 0))) : ∀ (j : Nat) (v : Value), ((le 8 s).map u8V)[j]? = some v → w.cell? ((⟨g, 0, none⟩ : Addr).add j) = some v := fun j v hj => by
  have : ((⟨g, 0, none⟩ : Addr).add j) = ⟨g, j, none⟩ := by unfold Addr.add; split <;> simp_all
  rw [this, cellD h]
  simpa using hj

theorem splice_seal {m p z : List UInt8} (hm : m.length = 8) (hp : p.length = 4080) (hz : z.length = 4096) :
    let A := z.take 0 ++ m ++ z.drop (0 + m.length)
    let B := A.take 8 ++ p ++ A.drop (8 + p.length)
    B.take 4088 ++ m ++ B.drop (4088 + m.length) = m ++ p ++ m := by
  intro A B
  have e1 : A.take 8 = m := by
    show (z.take 0 ++ m ++ z.drop (0 + m.length)).take 8 = m
    rw [List.take_zero, List.nil_append, List.take_append_of_le_length (by omega), List.take_of_length_le (by omega)]
  have hA : A.length = 4096 := by show (z.take 0 ++ m ++ z.drop (0 + m.length)).length = _; simp; omega
  obtain ⟨r, hr⟩ : ∃ r, r = A.drop (8 + p.length) := ⟨_, rfl⟩
  have hrl : r.length = 8 := by rw [hr, List.length_drop]; omega
  have e2 : B = m ++ p ++ r := by show A.take 8 ++ p ++ A.drop (8 + p.length) = _; rw [e1, hr]
  rw [e2, List.take_append_of_le_length (by simp; omega), List.take_of_length_le (by simp; omega), List.drop_of_length_le (by simp; omega), List.append_nil]

theorem seal_any (A : Option Addr) (c s : Nat) (p : List UInt8) (w : World) (hr : Rd w w.heap.size A p) (hp : p.length = 4080) (hs : s ≤ 18446744073709551615) :
    Calls Tryz.prog 66 #[.slice A 4080 c, .int .u64 (s : Int)] w fun e w' => (∃ g, e = .returned (.tuple #[.slice (some ⟨g, 0, none⟩) 4096 4096, .int .i64 0]) ∧ Bk w' (.slice (some ⟨g, 0, none⟩) 4096 4096) (sealed p s) ∧ w.heap.size ≤ g) ∧ Below w.heap.size w w' := by
  have HP := Lib.hid hp
  clear hp
  go_enter Tryz.func66, Tryz.ntmps66
  go_wp2_with (
    (go_at_call 121
     with_reducible refine (add64_any none 0 0 s [] _ (.nil _ _ _) rfl (by simp) hs).mono ?_
     rintro e w1 ⟨u, rfl, ho, hb⟩
     obtain ⟨g1, c1, rfl⟩ := Own.gform ho
     obtain ⟨k0, k1, k2, k3, k4, k5, k6, k7⟩ := Own.eight ho
     clear ho
     have hat := at184 g1 0 8 c1 w1 (by omega)
     obtain ⟨W2, hW2⟩ : ∃ W2, (w1.alloc (.cells #[.int .u8 ((leB s 0).toNat : Int), .int .u8 ((leB s 1).toNat : Int), .int .u8 ((leB s 2).toNat : Int), .int .u8 ((leB s 3).toNat : Int), .int .u8 ((leB s 4).toNat : Int), .int .u8 ((leB s 5).toNat : Int), .int .u8 ((leB s 6).toNat : Int), .int .u8 ((leB s 7).toNat : Int)] 184)) = W2 := ⟨_, rfl⟩
     have m2 : W2.heap[w1.heap.size]? = some (.cells ((le 8 s).map u8V).toArray 184 (0, 0)) := by rw [← hW2]; exact heap_alloc_new w1 _
     have b2 : Below w.heap.size w W2 := by rw [← hW2]; exact hb.alloc hb.size _
     have z2 := Lib.hid (show W2.heap.size = w1.heap.size + 1 by rw [← hW2]; simp)
     obtain ⟨w3, hmk0, hown3, hb3⟩ := mkn W2 4096 (by omega)
     have hmk : (Instr.makeSlice 37 (.int .i64 4096) (.int .i64 4096)).run Tryz.prog W2 = .ok (.slice (some ⟨W2.heap.size, 0, none⟩) 4096 4096) w3 := hmk0
     clear hmk0
     have g3 := hown3.full (by simp) (by omega)
     have hz1 : w.heap.size ≤ w1.heap.size := hb.size
     have m3 := (hb3.block _ (hlt m2)).trans m2
     obtain ⟨w4, h4, g4, s4, b4⟩ := cpAt (o := 0) (n := 4096) (cp := 4096) (c := 8) (L := 8) g3 (by simp [le_len]) (cells8 m3) (by simp [le_len]) (by simp [le_len])
     have m4 := (s4 _ (by have := z2.out; omega)).trans m3
     have hr4 : Rd w4 w.heap.size A p := ((hr.below b2).below (hb3.mono (by have := z2.out; omega))).below (b4 _ (by have := z2.out; omega))
     obtain ⟨ad, rfl, hsrc⟩ := hr4.addr (by rintro rfl; have := HP.out; simp at this)
     obtain ⟨w5, h5, g5, s5, b5⟩ := cpAt (o := 8) (n := 4088) (cp := 4088) (c := c) (L := 4080) g4 HP.out.symm hsrc (by rw [HP.out]; omega) (by rw [HP.out]; simp [le_len])
     have m5 := (s5 _ (by have := z2.out; omega)).trans m4
     obtain ⟨W5, hW5⟩ : ∃ W5, w5.drew = W5 := ⟨_, rfl⟩
     have eW5 : W5.heap = w5.heap := by rw [← hW5]; rfl
     rw [← eW5] at g5 m5
     obtain ⟨w6, h6, g6, s6, b6⟩ := cpAt (o := 4088) (n := 8) (cp := 8) (c := 8) (L := 8) g5 (by simp [le_len]) (cells8 m5) (by simp [le_len]) (by simp [le_len, HP.out])
     have b56 : Below w5.heap.size w5 W5 := by rw [← hW5]; exact ⟨rfl, rfl, rfl, Nat.le_refl _, fun _ _ => rfl⟩
     clear hown3 g3 m3 g4 s4 m4 hr4 hsrc m5 g5 eW5 s5 s6))
  refine stillW 3 (by kernel_rfl) (by kernel_rfl) W5 hW5 ?_
  simp only [List.take_succ_cons, List.take_zero, List.drop_succ_cons, List.drop_zero]
  repeat still_step
  refine wpStill_nil ?_
  go_wp2
  go_ret2
  have hz2 : w.heap.size ≤ W2.heap.size := by have := z2.out; omega
  refine ⟨⟨W2.heap.size, rfl, ⟨_, rfl, ?_, sealed_len HP.out⟩, hz2⟩, ?_⟩
  · rw [g6]
    have e := splice_seal (m := le 8 s) (p := p) (z := List.replicate 4096 0) (le_len _ _) HP.out (by simp)
    simp only at e
    rw [e]
    rfl
  · exact (((b2.trans (hb3.mono hz2)).trans ((b4 _ hz2).trans (b5 _ hz2))).trans (b56.mono ((b2.trans (hb3.mono hz2)).trans ((b4 _ hz2).trans (b5 _ hz2))).size)).trans (b6 _ hz2)
end Go.Proofs.YtecnddogdiikiaaGreat

namespace Go.Proofs.YtecnddogdiikiaaGreat
open Go Go.RowKit
set_option maxRecDepth 100000
set_option maxHeartbeats 2000000

theorem put_any {w : World} {n0 d db : Nat} {pv : Value} {P : PD} (h : Dk w n0 d db pv P) (b : Nat) (hb : b < P.bs.length) (A : Option Addr) (c s : Nat) (p : List UInt8) (hr : Rd w w.heap.size A p) (hp : p.length = 4080) (hs : s ≤ 18446744073709551615) (hw : P.ws.length ≤ 100) :
    Calls Tryz.prog 28 #[.pointer (some ⟨d, 0, none⟩), .int .i64 (b : Int), .slice A 4080 c, .int .u64 (s : Int)] w fun e w' => e = .returned (.int .i64 (P.put b (sealed p s)).2) ∧ (∃ pv', Dk w' n0 d db pv' (P.put b (sealed p s)).1) ∧ Fr n0 d db w w' := by
  have S := seal_any A c s p w hr hp hs
  have hl := sealed_len (s := s) hp
  generalize sealed p s = q at *
  obtain ⟨P2, t, hPt⟩ : ∃ P2 t, P.put b q = (P2, t) := ⟨_, _, rfl⟩
  have W : ∀ (w1 : World) (g : Nat), Dk w1 n0 d db pv P → Rd w1 w1.heap.size (some ⟨g, 0, none⟩) q → Calls Tryz.prog 10 #[.pointer (some ⟨d, 0, none⟩), .int .i64 (b : Int), .slice (some ⟨g, 0, none⟩) 4096 4096] w1 fun e w' => e = .returned (.int .i64 t) ∧ (∃ pv', Dk w' n0 d db pv' P2) ∧ Fr n0 d db w1 w' := by
    intro w1 g h1 hr1
    have := write_any h1 b hb (some ⟨g, 0, none⟩) 4096 q hr1 hl hw
    rw [hPt] at this
    exact this
  rw [hPt]
  clear hPt hr hp
  go_enter Tryz.func28, Tryz.ntmps28
  go_wp2_with (first
    | (go_at_call 66; with_reducible refine S.mono ?_; rintro e w1 ⟨⟨g, rfl, hB, -⟩, hb1⟩; obtain ⟨A1, e1, hr1⟩ := hB.rd; cases e1; have h1 := h.below hb1)
    | (go_at_call 10; with_reducible refine (W w1 g h1 hr1).mono ?_; rintro e w2 ⟨rfl, h2, hF⟩))
  go_ret
  exact ⟨rfl, h2, (Fr.below hb1).then hF⟩

theorem firstHV (log : Nat) : hdV (firstH log) none none 0 0 0 0 = #[.int .i64 (log : Int), .int .i64 1, .int .i64 0, .int .i64 1, .int .i64 1, .slice none 0 0, .slice none 0 0] := rfl

theorem puthead_any {w : World} {n0 d db : Nat} {pv : Value} {P : PD} (h : Dk w n0 d db pv P) (hB : 1 < P.bs.length) (log : Nat) (h1 : 24 ≤ log) (h2 : log ≤ 1024) (hw : P.ws.length ≤ 90) :
    Calls Tryz.prog 31 #[.pointer (some ⟨d, 0, none⟩), .agg #[.int .i64 (log : Int), .int .i64 1, .int .i64 0, .int .i64 1, .int .i64 1, .slice none 0 0, .slice none 0 0], .int .i64 1] w fun e w' =>
      e = .returned (.int .i64 (bindP (P.put 1 (sealed (headB (firstH log)) 1)) fun P4 => P4.sync).2) ∧ (∃ pv', Dk w' n0 d db pv' (bindP (P.put 1 (sealed (headB (firstH log)) 1)) fun P4 => P4.sync).1) ∧ Fr n0 d db w w' := by
  have ok := firstH_ok h1 h2
  have HBl := headB_len ok
  have hbs : ∀ (w1 : World), Calls Tryz.prog 71 #[.agg #[.int .i64 (log : Int), .int .i64 1, .int .i64 0, .int .i64 1, .int .i64 1, .slice none 0 0, .slice none 0 0]] w1 fun e w' => (∃ A' c', e = .returned (.tuple #[.slice A' 4080 c', .int .i64 0]) ∧ Rd w' w'.heap.size A' (headB (firstH log))) ∧ Below w1.heap.size w1 w' :=
    fun w1 => headbytes' (firstH log) ok none none 0 0 0 0 w1 (.nil _ _ _) (.nil _ _ _) rfl rfl
  generalize headB (firstH log) = q at *
  have hb1 : ∀ o : Obj, Below w.heap.size w (w.alloc o) := fun o => (Below.refl _ _).alloc (Nat.le_refl _) _
  have Pt : ∀ (w1 : World) (A : Option Addr) (c : Nat), Dk w1 n0 d db pv P → Rd w1 w1.heap.size A q → Calls Tryz.prog 28 #[.pointer (some ⟨d, 0, none⟩), .int .i64 1, .slice A 4080 c, .int .u64 1] w1 fun e w' => e = .returned (.int .i64 (P.put 1 (sealed q 1)).2) ∧ (∃ pv', Dk w' n0 d db pv' (P.put 1 (sealed q 1)).1) ∧ Fr n0 d db w1 w' :=
    fun w1 A c h1 hr1 => put_any h1 1 hB A c 1 q hr1 HBl (by omega) (by omega)
  have hwl : (P.put 1 (sealed q 1)).1.ws.length ≤ 100 := by unfold PD.put; split <;> simp [PD.stop] <;> omega
  obtain ⟨P2, t, hPt⟩ : ∃ P2 t, P.put 1 (sealed q 1) = (P2, t) := ⟨_, _, rfl⟩
  rw [hPt] at Pt hwl ⊢
  clear hPt
  simp only at Pt hwl
  by_cases ht : t = 0
  · subst ht
    rw [bindP_ok rfl]
    obtain ⟨P3, u, hPu⟩ : ∃ P3 u, P2.sync = (P3, u) := ⟨_, _, rfl⟩
    have Sy : ∀ (w1 : World) (pv1 : Value), Dk w1 n0 d db pv1 P2 → Calls Tryz.prog 12 #[.pointer (some ⟨d, 0, none⟩)] w1 fun e w' => e = .returned (.int .i64 u) ∧ (∃ pv', Dk w' n0 d db pv' P3) ∧ Fr n0 d db w1 w' := by
      intro w1 pv1 h1
      refine (sync_any h1 hwl).mono ?_
      rw [hPu]
      rintro e w' ⟨h1, ⟨pv', h2, -⟩, h3⟩
      exact ⟨h1, ⟨pv', h2⟩, h3⟩
    simp only
    rw [hPu]
    clear hPu hwl
    go_enter Tryz.func31, Tryz.ntmps31
    go_wp2_with (first
      | (go_at_call 71; with_reducible refine (hbs _).mono ?_; rintro e w1 ⟨⟨A1, c1, rfl, hr1⟩, hb2⟩; have bw := (hb1 _).trans (hb2.mono (hb1 _).size); have hd1 := h.below bw)
      | (go_at_call 28; with_reducible refine (Pt w1 A1 c1 hd1 hr1).mono ?_; rintro e w2 ⟨rfl, ⟨pv2, hd2⟩, hF⟩)
      | (go_at_call 12; with_reducible refine (Sy w2 pv2 hd2).mono ?_; rintro e w3 ⟨rfl, ⟨pv3, hd3⟩, hF3⟩))
    go_ret
    exact ⟨rfl, ⟨_, hd3⟩, ((Fr.below bw).then hF).then hF3⟩
  · rw [bindP_no ht]
    go_enter Tryz.func31, Tryz.ntmps31
    go_wp2_with (first
      | (go_at_call 71; with_reducible refine (hbs _).mono ?_; rintro e w1 ⟨⟨A1, c1, rfl, hr1⟩, hb2⟩; have bw := (hb1 _).trans (hb2.mono (hb1 _).size); have hd1 := h.below bw)
      | (go_at_call 28; with_reducible refine (Pt w1 A1 c1 hd1 hr1).mono ?_; rintro e w2 ⟨rfl, ⟨pv2, hd2⟩, hF⟩))
    go_ret
    exact ⟨rfl, ⟨_, hd2⟩, (Fr.below bw).then hF⟩
end Go.Proofs.YtecnddogdiikiaaGreat

