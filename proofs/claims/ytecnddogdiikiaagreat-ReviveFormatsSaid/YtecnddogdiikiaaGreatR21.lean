/-
  chancerylaw16.ReviveFormats: for all arguments the call returns true.
-/
import Derived.Test.YtecnddogdiikiaaGreatR20
set_option linter.unusedVariables false
set_option linter.unusedSimpArgs false
namespace Go.Proofs.YtecnddogdiikiaaGreat
open Go Go.RowKit
set_option maxRecDepth 100000
set_option maxHeartbeats 4000000

theorem Dk.setX {w w' : World} {n0 d db g : Nat} {pv : Value} {P : PD} {C : Array Value} (h : Dk w n0 d db pv P) (g3 : w.heap[g]? = some (.cells C 50 (0, 0))) (o : ∀ j, j ≠ g → w'.heap[j]? = w.heap[j]?) (z : w'.heap.size = w.heap.size) : Dk w' n0 d db pv P := by
  have hs : ∀ (g' : Nat) (x : Array Value) (t : TypeId), w.heap[g']? = some (.cells x t (0, 0)) → t ≠ 50 → w'.heap[g']? = w.heap[g']? := fun g' x t hg ht => o g' (tag_ne hg g3 ht)
  obtain ⟨cs, h3, h4, h5⟩ := h.row
  exact ⟨(hs _ _ _ h.box (by decide)).trans h.box, ⟨cs, (hs _ _ _ h3 (by decide)).trans h3, h4, fun k hk => by obtain ⟨u, a, b⟩ := h5 k hk; exact ⟨u, a, b.same fun g x hg => hs g _ _ hg (by decide)⟩⟩,
    h.pend.same (fun g x hg => hs g _ _ hg (by decide)) fun g x hg => hs g _ _ hg (by decide), h.ok, by rw [z]; exact h.base⟩
theorem Fr.low {n0 d db n : Nat} {W W' : World} (h : Fr n0 d db W W') (hn : n ≤ n0) (hW : n ≤ W.heap.size) (hd : n ≤ d) (hdb : n ≤ db) : Below n W W' :=
  Kp.below h hW fun k hk hh => by omega
theorem Fr.up {d db lo : Nat} {W W' : World} (h : Fr W.heap.size d db W W') (hd : d < lo) (hdb : db < lo) : Up lo W W' :=
  ⟨h.size, fun k hlo hk => h.block k hk (by omega)⟩
theorem allocB (w : World) (o : Obj) : Below w.heap.size w (w.alloc o) := (Below.refl _ _).alloc (Nat.le_refl _) _
theorem rv_gen1 {w : World} {lo : Nat} {v : Value} {bs : List (List UInt8)} (h : Rv w lo v ⟨bs, [], -1, 0⟩) : ∃ X B rc Y n m, v = rvv (.slice X B rc) (.slice Y n m) (-1) 0 := by
  obtain ⟨x, y, rfl, ⟨g, o, c, rfl, -⟩, ⟨Y, m, rfl, -, -⟩, -⟩ := h
  exact ⟨_, _, _, _, _, _, rfl⟩
theorem rv_fail {w : World} {lo : Nat} {bs : List (List UInt8)} {x y : Value} {f : Nat} (h : Rv w lo (rvv x y (-1) 0) ⟨bs, [], -1, 0⟩) (hf : f ≤ 1000) : Rv w lo (rvv x y (f : Int) 5) ⟨bs, [], (f : Int), 5⟩ := by
  obtain ⟨x', y', e, h1, h2, h3⟩ := h
  cases e
  exact ⟨_, _, rfl, h1, h2, ⟨h3.lens, h3.wlens, by show (-1 : Int) ≤ f; omega, by show (f : Int) ≤ 1000; omega⟩⟩
theorem formatP_len (P : PD) (log : Int) : (formatP P log).1.bs.length = P.bs.length := by
  unfold formatP
  split
  · rfl
  · split
    · rfl
    · unfold bindP
      split
      · dsimp only
        split
        · split
          · split
            · rw [PD.sync_len, PD.put_len, PD.sync_len, PD.put_len, PD.put_len]
            · rw [PD.put_len, PD.sync_len, PD.put_len, PD.put_len]
          · rw [PD.sync_len, PD.put_len, PD.put_len]
        · rw [PD.put_len, PD.put_len]
      · rw [PD.put_len]

theorem formats_any (n log fail : Int) (hn : -9223372036854775808 ≤ n ∧ n ≤ 9223372036854775807) (hl : -9223372036854775808 ≤ log ∧ log ≤ 9223372036854775807) (A B : Option Addr) (la ca lb cb : Nat) (a b : List UInt8) (w : World) (hA : Rd w w.heap.size A a) (hB : Rd w w.heap.size B b)
    (hla : la = a.length) (hlb : lb = b.length) (hxa : a.length ≤ 140737488351232) (hxb : b.length ≤ 140737488351232) (aw : ∀ w, Calls Tryz.prog 13 #[] w fun e w' => e = .returned (.bool true) ∧ Below w.heap.size w w') :
    Calls Tryz.prog 4 #[.int .i64 n, .int .i64 log, .slice A la ca, .slice B lb cb, .int .i64 fail] w fun e w' => e = .returned (.bool true) ∧ Below w.heap.size w w' := by
  have HLA := Lib.hid hla
  have HLB := Lib.hid hlb
  have HXA := Lib.hid hxa
  have HXB := Lib.hid hxb
  have hA0 := hA
  have hB0 := hB
  have P60 : Calls Tryz.prog 14 #[.int .i64 n, .int .i64 60] w fun e w' => (∃ p : Nat, p < 60 ∧ e = .returned (.int .i64 (p : Int))) ∧ w' = w := pick_any n 60 (by omega) (by omega) hn w
  have hnew : ∀ (p : Nat), p < 60 → ∀ w : World, Calls Tryz.prog 5 #[.int .i64 (1 + (p : Int))] w fun e w' => (∃ d db, e = .returned (.tuple #[.pointer (some ⟨d, 0, none⟩), .int .i64 0]) ∧ Dk w' w'.heap.size d db (.slice none 0 0) ⟨List.replicate (1 + p) zs, [], -1, 0⟩ ∧ w.heap.size ≤ d ∧ w.heap.size ≤ db) ∧ Below w.heap.size w w' := by
    intro p hp w
    have := new_any w (1 + p) (by omega) (by omega)
    rw [show (((1 + p : Nat)) : Int) = 1 + (p : Int) by omega] at this
    exact this
  have hbk : ∀ (W : World) {n0 d db p : Nat} (pv : Value) (ws : List (Nat × List UInt8)) (ft wh : Int), Dk W n0 d db pv ⟨List.replicate (1 + p) zs, ws, ft, wh⟩ → Calls Tryz.prog 15 #[.pointer (some ⟨d, 0, none⟩)] W fun e w' => e = .returned (.int .i64 (1 + (p : Int))) ∧ w' = W := by
    intro W n0 d db p pv ws ft wh h
    have := blocks_any h.box
    simp only [List.length_replicate] at this
    rw [show (((1 + p : Nat)) : Int) = 1 + (p : Int) by omega] at this
    exact this
  clear hla hlb hxa hxb hn
  by_cases hf : 0 ≤ fail ∧ fail < 9
  · obtain ⟨f, rfl⟩ : ∃ f : Nat, fail = (f : Int) := ⟨fail.toNat, by omega⟩
    have hf9 : f < 9 := by omega
    have hf9' : (f : Int) < 9 := hf.2
    clear hf
    go_enter Tryz.func4, Tryz.ntmps4
    go_wp2_with (first
      | (go_at_call 14; with_reducible refine P60.mono ?_; rintro e w ⟨⟨p, hp, rfl⟩, rfl⟩; have nw := hnew p hp w)
      | (go_at_call 5
         with_reducible refine nw.mono ?_
         rintro e w1 ⟨⟨d, db, rfl, hD, hd, hdb⟩, hb1⟩
         obtain ⟨W2, hW2⟩ : ∃ W2, w1.alloc (.cells #[.slice A la ca, .slice B lb cb] 37) = W2 := ⟨_, rfl⟩
         have b12 : Below w1.heap.size w1 W2 := by rw [← hW2]; exact (Below.refl _ _).alloc (Nat.le_refl _) _
         have g2 : W2.heap[w1.heap.size]? = some (.cells #[.slice A la ca, .slice B lb cb] 37 (0, 0)) := by rw [← hW2]; exact heap_alloc_new w1 _
         have hdl : d < w1.heap.size := hD.box.lt
         have hdbl : db < w1.heap.size := by obtain ⟨cs, hrow, -⟩ := hD.row; exact hlt hrow
         have hD2 := (hD.below b12).rebase
         have b2 : Below w.heap.size w W2 := hb1.trans (b12.mono hb1.size)
         clear hD nw))
    all_goals first | omega | skip
    have HDL := Lib.hid hdl
    have HDBL := Lib.hid hdbl
    have HD := Lib.hid hd
    have HDB := Lib.hid hdb
    have hz1 : w1.heap.size < W2.heap.size := hlt g2
    have HZ1 := Lib.hid hz1
    have HG2 := Lib.hid g2
    have HB2 := Lib.hid b2
    have hzw : w.heap.size ≤ w1.heap.size := hb1.size
    have HZW := Lib.hid hzw
    have rA := (hA.below b2)
    have rB := (hB.below b2)
    clear hdl hdbl hd hdb hz1 g2 b2 hzw b12 hW2 hb1 hA hB
    go_loopw [33] (fun i wr => ∃ (k : Nat) (ws : List (Nat × List UInt8)) (pv : Value), k ≤ 2 ∧ i = .int .i64 k ∧ ws.length ≤ k ∧ Dk wr W2.heap.size d db pv ⟨List.replicate (1 + p) zs, ws, -1, 0⟩ ∧ Fr W2.heap.size d db W2 wr) (fun i _ => 2 - (intOf i).toNat)
    case atStart => exact ⟨0, [], _, by omega, rfl, by simp, hD2, Kp.refl _ _⟩
    case round =>
      clear hD2
      obtain ⟨k, ws, pv, hk, rfl, hwl, hDk, hFr⟩ := hrel
      have hzr : W2.heap.size ≤ wr.heap.size := hFr.size
      have bwr : Below w.heap.size w wr := HB2.out.trans (hFr.low (Nat.le_trans HZW.out (Nat.le_of_lt HZ1.out)) (Nat.le_trans HZW.out (Nat.le_of_lt HZ1.out)) HD.out HDB.out)
      by_cases hk2 : k < 2
      · obtain ⟨Ak, nk, ck, xs, hcell, hrd, hnk, hxl⟩ : ∃ (Ak : Option Addr) (nk ck : Nat) (xs : List UInt8), wr.cell? ⟨w1.heap.size, k, none⟩ = some (.slice Ak nk ck) ∧ Rd wr wr.heap.size Ak xs ∧ nk = xs.length ∧ xs.length ≤ 140737488351232 := by
          have hblk : wr.heap[w1.heap.size]? = some (.cells #[.slice A la ca, .slice B lb cb] 37 (0, 0)) := (hFr.block _ HZ1.out (by have := HDL.out; have := HDBL.out; have := HZ1.out; omega)).trans HG2.out
          have hk01 : k = 0 ∨ k = 1 := by omega
          rcases hk01 with rfl | rfl
          · exact ⟨A, la, ca, a, (cellD hblk 0).trans rfl, ((hA0.below bwr)).more bwr.size, HLA.out, HXA.out⟩
          · exact ⟨B, lb, cb, b, (cellD hblk 1).trans rfl, ((hB0.below bwr)).more bwr.size, HLB.out, HXB.out⟩
        have hkr := hbk wr _ _ _ _ hDk
        have cpy := copy_any Ak ck nk xs wr hrd hnk (by omega)
        have hmeas : 2 - (intOf (Value.int .i64 ((k : Int) + 1))).toNat < 2 - (intOf (Value.int .i64 (k : Int))).toNat := by simp [intOf]; omega
        have HXL := Lib.hid hxl
        clear hrd hnk hxl
        by_cases hkp : k < 1 + p
        · have hkp' : (k : Int) < 1 + (p : Int) := by omega
          go_wp2_with (first
            | (go_at_call 15; with_reducible refine hkr.mono ?_; rintro e wr ⟨rfl, rfl⟩)
            | (go_at_call 16
               with_reducible refine cpy.mono ?_
               rintro e w5 ⟨v5, rfl, own5, hb5⟩
               obtain ⟨A6, c6, w6, hap, hc6, r6, hb6⟩ := fill_any own5 (by have := HXL.out; omega) hb5.size
               have b6 := hb5.trans (hb6.mono (Nat.le_refl _))
               have wt := write_any (hDk.below b6) k (by simpa using hkp) A6 c6 (first4 xs) r6.first4 (first4_len xs) (by simp; omega))
            | (at_builtin; refine Lib.wpList_append_run _ rfl _ _ _ _ rfl _ _ rfl rfl _ _ hap ?_; clear hap)
            | (go_at_call 10
               with_reducible refine wt.mono ?_
               rintro e w7 ⟨rfl, ⟨pv7, hD7⟩, hF7⟩))
          all_goals first | omega | skip
          refine ⟨⟨k + 1, ws ++ [(k, first4 xs)], pv7, by omega, by go_num, by simp; omega, ?_, ?_⟩, hmeas⟩
          · exact hD7
          · exact (hFr.then (Fr.below b6)).then hF7
        · have hkp' : ¬ (k : Int) < 1 + (p : Int) := by omega
          go_wp2_with (go_at_call 15; with_reducible refine hkr.mono ?_; rintro e wr ⟨rfl, rfl⟩)
          all_goals first | omega | skip
          exact ⟨⟨k + 1, ws, pv, by omega, by go_num, by omega, hDk, hFr⟩, hmeas⟩
      · obtain rfl : k = 2 := by omega
        have sy := sync_any hDk (by simp; omega)
        have hsy : (⟨List.replicate (1 + p) zs, ws, -1, 0⟩ : PD).sync = (⟨carry (List.replicate (1 + p) zs) ws, [], -1, 0⟩, 0) := by simp [PD.sync, opE, opF]
        rw [hsy] at sy
        simp only at sy
        have hcl : (carry (List.replicate (1 + p) zs) ws).length = 1 + p := by rw [carry_len]; simp
        generalize carry (List.replicate (1 + p) zs) ws = bs at sy hcl
        have HCL := Lib.hid hcl
        have hdw3 : d < wr.heap.size := by have := HDL.out; have := HZ1.out; omega
        have hdbw3 : db < wr.heap.size := by have := HDBL.out; have := HZ1.out; omega
        clear hsy hwl hDk hcl
        go_wp2_with (first
          | (go_at_call 12
             with_reducible refine sy.mono ?_
             rintro e w3 ⟨rfl, ⟨pv3, hD3, hpv3⟩, hF3⟩
             have hpv := hpv3 trivial
             subst hpv
             have b3 : Below w.heap.size w w3 := bwr.trans (hF3.low (by have := HZW.out; have := HZ1.out; omega) bwr.size HD.out HDB.out)
             have hdw : d < w3.heap.size := Nat.lt_of_lt_of_le hdw3 hF3.size
             have hdbw : db < w3.heap.size := Nat.lt_of_lt_of_le hdbw3 hF3.size
             have mr := mirror_any hD3 (by have := HCL.out; simp only; omega) (by have := HCL.out; simp only; omega)
             clear hpv3 sy hF3)
          | (go_at_call 17
             with_reducible refine mr.mono ?_
             rintro e w4 ⟨⟨v4, rfl, hV4⟩, hb4⟩
             obtain ⟨X4, B4, rc4, Y4, n4, m4, rfl⟩ := rv_gen1 hV4
             have hD4 := hD3.below hb4
             have b4 : Below w.heap.size w w4 := b3.trans (hb4.mono b3.size)
             have b44 := allocB w4 (.cells #[.slice X4 B4 rc4, .slice Y4 n4 m4, .bool false, .int .i64 (-1), .int .i64 (-1), .int .i64 0] 50)
             have g15 := heap_alloc_new w4 (.cells #[.slice X4 B4 rc4, .slice Y4 n4 m4, .bool false, .int .i64 (-1), .int .i64 (-1), .int .i64 0] 50)
             have hD5 := (hD4.below b44).rebase
             have hV5 := hV4.same (Up.below (lo := w3.heap.size) b44)
             have b5 : Below w.heap.size w _ := b4.trans (b44.mono b4.size)
             have hz5 : w3.heap.size ≤ _ := Nat.le_trans hb4.size b44.size
             have hz4 : w3.heap.size ≤ w4.heap.size := hb4.size
             have fl := fail_any hD5 f (by omega)
             clear mr hD3 hD4 hV4 hb4 b44 hD5)
          | (go_at_call 18
             with_reducible refine fl.mono ?_
             rintro e w5 ⟨rfl, hD5, hF5⟩
             have u5 := hF5.up hdw hdbw
             have hV55 := hV5.same u5
             have g155 := (hF5.block _ (hlt g15) (by have := hlt g15; omega)).trans g15
             have hz55 : w3.heap.size ≤ w5.heap.size := Nat.le_trans hz5 hF5.size
             have b55 : Below w.heap.size w w5 := b5.trans (hF5.low b5.size b5.size HD.out HDB.out)
             have fg := failing_any X4 B4 rc4 Y4 n4 m4 (-1) 0 f w5
             obtain ⟨c0, c1, c2, c3, c4, c5⟩ := cells6 g155
             clear fl hF5 u5 hV5 g15 hz5 b5)
          | (go_at_call 19
             with_reducible refine fg.mono ?_
             rintro e w6 ⟨rfl, hb6⟩
             have hD6 := hD5.below hb6
             have hV6 := hV55.same (Up.below (lo := w3.heap.size) hb6)
             have g156 := (hb6.block _ (hlt g155)).trans g155
             have b6 : Below w.heap.size w w6 := b55.trans (hb6.mono b55.size)
             have hz6 : w3.heap.size ≤ w6.heap.size := Nat.le_trans hz55 hb6.size
             clear fg hD5 hV55 g155 c0 c1 c2 c3 c4 c5)
          | (refine stV rfl 50 (.tmp 15) (.tmp 73) rfl rfl w4.heap.size 0 rfl 6 sz50 _ (rvv (.slice X4 B4 rc4) (.slice Y4 n4 m4) (f : Int) 5) 50 g156 rfl (by simp) rfl (by simp [Value.cells, Value.oneCell']) ?_
             intro w6' g6' o6 b66 z6
             have g16 : w6'.heap[w4.heap.size]? = some (.cells #[.slice X4 B4 rc4, .slice Y4 n4 m4, .bool false, .int .i64 (-1), .int .i64 (f : Int), .int .i64 5] 50 (0, 0)) := by rw [g6']; rfl
             have hD66 := (hD6.setX g156 o6 z6).rebase
             have hV66 := (rv_fail (f := f) hV6 (by omega)).set g156 o6 z6
             have hz66 : w3.heap.size ≤ w6'.heap.size := by rw [z6]; exact hz6
             have b666 : Below w.heap.size w w6' := b6.trans (b66 _ (Nat.le_trans b4.size (Nat.le_refl _)))
             have fm := dformat_any hD66 (by have := HCL.out; simp only; omega) (by have := HCL.out; simp only; omega) log hl.1 hl.2
             clear g6' o6 b66 z6 hD6 hV6 hD66)
          | (go_at_call 8
             with_reducible refine fm.mono ?_
             rintro e w7 ⟨rfl, ⟨n7, pv7, hD7⟩, hF7⟩
             have u7 := hF7.up hdw hdbw
             have hV7 := hV66.same u7
             have g157 := (hF7.block _ (hlt g16) (by have := hlt g16; omega)).trans g16
             have hz7 : w3.heap.size ≤ w7.heap.size := Nat.le_trans hz66 hF7.size
             have b7 : Below w.heap.size w w7 := b666.trans (hF7.low b666.size b666.size HD.out HDB.out)
             have rf := rformat_any hV7 hz7 rfl (by have := HCL.out; simp only; omega) log hl.1 hl.2
             obtain ⟨c0, c1, c2, c3, c4, c5⟩ := cells6 g157
             clear fm hF7 hV7 u7 g157)
          | (go_at_call 20
             with_reducible refine rf.mono ?_
             rintro e w8 ⟨⟨X8, B8, rc8, Y8, n8, m8, ft8, wh8, rfl, hV8⟩, hb8⟩
             have b88 := allocB w8 (.cells #[.slice X8 B8 rc8, .slice Y8 n8 m8, .bool false, .int .i64 (-1), .int .i64 ft8, .int .i64 wh8] 50)
             have g18 := heap_alloc_new w8 (.cells #[.slice X8 B8 rc8, .slice Y8 n8 m8, .bool false, .int .i64 (-1), .int .i64 ft8, .int .i64 wh8] 50)
             have sm := samelaw_any ((hD7.below hb8).below b88) (hV8.same (Up.below (lo := w3.heap.size) b88)) (by rw [formatP_len]; have := HCL.out; simp only; omega)
             have b9 : Below w.heap.size w _ := (b7.trans (hb8.mono b7.size)).trans (b88.mono (Nat.le_trans b7.size hb8.size))
             obtain ⟨e0, e1, e2, e3, e4, e5⟩ := cells6 g18
             clear rf hD7 hV8 hb8 b88 g18 c0 c1 c2 c3 c4 c5)
          | (go_at_call 21; with_reducible refine sm.mono ?_; rintro e w10 ⟨rfl, hb10⟩)
          | (go_at_call 13; with_reducible refine (aw _).mono ?_; rintro e w11 ⟨rfl, hb11⟩))
        all_goals first | omega | skip
        go_ret
        exact ⟨rfl, (b9.trans (hb10.mono b9.size)).trans (hb11.mono (Nat.le_trans b9.size hb10.size))⟩
  · have hf' : fail < 0 ∨ (0 ≤ fail ∧ 9 ≤ fail) := by omega
    clear hf
    rcases hf' with hf | ⟨hf, hf2⟩
    · skip
      go_enter Tryz.func4, Tryz.ntmps4
      go_wp2_with (first
        | (go_at_call 14; with_reducible refine P60.mono ?_; rintro e w ⟨⟨p, hp, rfl⟩, rfl⟩; have nw := hnew p hp w)
        | (go_at_call 5
           with_reducible refine nw.mono ?_
           rintro e w1 ⟨⟨d, db, rfl, hD, hd, hdb⟩, hb1⟩
           obtain ⟨W2, hW2⟩ : ∃ W2, w1.alloc (.cells #[.slice A la ca, .slice B lb cb] 37) = W2 := ⟨_, rfl⟩
           have b12 : Below w1.heap.size w1 W2 := by rw [← hW2]; exact (Below.refl _ _).alloc (Nat.le_refl _) _
           have g2 : W2.heap[w1.heap.size]? = some (.cells #[.slice A la ca, .slice B lb cb] 37 (0, 0)) := by rw [← hW2]; exact heap_alloc_new w1 _
           have hdl : d < w1.heap.size := hD.box.lt
           have hdbl : db < w1.heap.size := by obtain ⟨cs, hrow, -⟩ := hD.row; exact hlt hrow
           have hD2 := (hD.below b12).rebase
           have b2 : Below w.heap.size w W2 := hb1.trans (b12.mono hb1.size)
           clear hD nw))
      all_goals first | omega | skip
      have HDL := Lib.hid hdl
      have HDBL := Lib.hid hdbl
      have HD := Lib.hid hd
      have HDB := Lib.hid hdb
      have hz1 : w1.heap.size < W2.heap.size := hlt g2
      have HZ1 := Lib.hid hz1
      have HG2 := Lib.hid g2
      have HB2 := Lib.hid b2
      have hzw : w.heap.size ≤ w1.heap.size := hb1.size
      have HZW := Lib.hid hzw
      have rA := (hA.below b2)
      have rB := (hB.below b2)
      clear hdl hdbl hd hdb hz1 g2 b2 hzw b12 hW2 hb1 hA hB
      go_loopw [33] (fun i wr => ∃ (k : Nat) (ws : List (Nat × List UInt8)) (pv : Value), k ≤ 2 ∧ i = .int .i64 k ∧ ws.length ≤ k ∧ Dk wr W2.heap.size d db pv ⟨List.replicate (1 + p) zs, ws, -1, 0⟩ ∧ Fr W2.heap.size d db W2 wr) (fun i _ => 2 - (intOf i).toNat)
      case atStart => exact ⟨0, [], _, by omega, rfl, by simp, hD2, Kp.refl _ _⟩
      case round =>
        clear hD2
        obtain ⟨k, ws, pv, hk, rfl, hwl, hDk, hFr⟩ := hrel
        have hzr : W2.heap.size ≤ wr.heap.size := hFr.size
        have bwr : Below w.heap.size w wr := HB2.out.trans (hFr.low (Nat.le_trans HZW.out (Nat.le_of_lt HZ1.out)) (Nat.le_trans HZW.out (Nat.le_of_lt HZ1.out)) HD.out HDB.out)
        by_cases hk2 : k < 2
        · obtain ⟨Ak, nk, ck, xs, hcell, hrd, hnk, hxl⟩ : ∃ (Ak : Option Addr) (nk ck : Nat) (xs : List UInt8), wr.cell? ⟨w1.heap.size, k, none⟩ = some (.slice Ak nk ck) ∧ Rd wr wr.heap.size Ak xs ∧ nk = xs.length ∧ xs.length ≤ 140737488351232 := by
            have hblk : wr.heap[w1.heap.size]? = some (.cells #[.slice A la ca, .slice B lb cb] 37 (0, 0)) := (hFr.block _ HZ1.out (by have := HDL.out; have := HDBL.out; have := HZ1.out; omega)).trans HG2.out
            have hk01 : k = 0 ∨ k = 1 := by omega
            rcases hk01 with rfl | rfl
            · exact ⟨A, la, ca, a, (cellD hblk 0).trans rfl, ((hA0.below bwr)).more bwr.size, HLA.out, HXA.out⟩
            · exact ⟨B, lb, cb, b, (cellD hblk 1).trans rfl, ((hB0.below bwr)).more bwr.size, HLB.out, HXB.out⟩
          have hkr := hbk wr _ _ _ _ hDk
          have cpy := copy_any Ak ck nk xs wr hrd hnk (by omega)
          have hmeas : 2 - (intOf (Value.int .i64 ((k : Int) + 1))).toNat < 2 - (intOf (Value.int .i64 (k : Int))).toNat := by simp [intOf]; omega
          have HXL := Lib.hid hxl
          clear hrd hnk hxl
          by_cases hkp : k < 1 + p
          · have hkp' : (k : Int) < 1 + (p : Int) := by omega
            go_wp2_with (first
              | (go_at_call 15; with_reducible refine hkr.mono ?_; rintro e wr ⟨rfl, rfl⟩)
              | (go_at_call 16
                 with_reducible refine cpy.mono ?_
                 rintro e w5 ⟨v5, rfl, own5, hb5⟩
                 obtain ⟨A6, c6, w6, hap, hc6, r6, hb6⟩ := fill_any own5 (by have := HXL.out; omega) hb5.size
                 have b6 := hb5.trans (hb6.mono (Nat.le_refl _))
                 have wt := write_any (hDk.below b6) k (by simpa using hkp) A6 c6 (first4 xs) r6.first4 (first4_len xs) (by simp; omega))
              | (at_builtin; refine Lib.wpList_append_run _ rfl _ _ _ _ rfl _ _ rfl rfl _ _ hap ?_; clear hap)
              | (go_at_call 10
                 with_reducible refine wt.mono ?_
                 rintro e w7 ⟨rfl, ⟨pv7, hD7⟩, hF7⟩))
            all_goals first | omega | skip
            refine ⟨⟨k + 1, ws ++ [(k, first4 xs)], pv7, by omega, by go_num, by simp; omega, ?_, ?_⟩, hmeas⟩
            · exact hD7
            · exact (hFr.then (Fr.below b6)).then hF7
          · have hkp' : ¬ (k : Int) < 1 + (p : Int) := by omega
            go_wp2_with (go_at_call 15; with_reducible refine hkr.mono ?_; rintro e wr ⟨rfl, rfl⟩)
            all_goals first | omega | skip
            exact ⟨⟨k + 1, ws, pv, by omega, by go_num, by omega, hDk, hFr⟩, hmeas⟩
        · obtain rfl : k = 2 := by omega
          have sy := sync_any hDk (by simp; omega)
          have hsy : (⟨List.replicate (1 + p) zs, ws, -1, 0⟩ : PD).sync = (⟨carry (List.replicate (1 + p) zs) ws, [], -1, 0⟩, 0) := by simp [PD.sync, opE, opF]
          rw [hsy] at sy
          simp only at sy
          have hcl : (carry (List.replicate (1 + p) zs) ws).length = 1 + p := by rw [carry_len]; simp
          generalize carry (List.replicate (1 + p) zs) ws = bs at sy hcl
          have HCL := Lib.hid hcl
          have hdw3 : d < wr.heap.size := by have := HDL.out; have := HZ1.out; omega
          have hdbw3 : db < wr.heap.size := by have := HDBL.out; have := HZ1.out; omega
          clear hsy hwl hDk hcl
          go_wp2_with (first
            | (go_at_call 12
               with_reducible refine sy.mono ?_
               rintro e w3 ⟨rfl, ⟨pv3, hD3, hpv3⟩, hF3⟩
               have hpv := hpv3 trivial
               subst hpv
               have b3 : Below w.heap.size w w3 := bwr.trans (hF3.low (by have := HZW.out; have := HZ1.out; omega) bwr.size HD.out HDB.out)
               have hdw : d < w3.heap.size := Nat.lt_of_lt_of_le hdw3 hF3.size
               have hdbw : db < w3.heap.size := Nat.lt_of_lt_of_le hdbw3 hF3.size
               have mr := mirror_any hD3 (by have := HCL.out; simp only; omega) (by have := HCL.out; simp only; omega)
               clear hpv3 sy hF3)
            | (go_at_call 17
               with_reducible refine mr.mono ?_
               rintro e w4 ⟨⟨v4, rfl, hV4⟩, hb4⟩
               obtain ⟨X4, B4, rc4, Y4, n4, m4, rfl⟩ := rv_gen1 hV4
               have hD4 := hD3.below hb4
               have b4 : Below w.heap.size w w4 := b3.trans (hb4.mono b3.size)
               have b44 := allocB w4 (.cells #[.slice X4 B4 rc4, .slice Y4 n4 m4, .bool false, .int .i64 (-1), .int .i64 (-1), .int .i64 0] 50)
               have g15 := heap_alloc_new w4 (.cells #[.slice X4 B4 rc4, .slice Y4 n4 m4, .bool false, .int .i64 (-1), .int .i64 (-1), .int .i64 0] 50)
               have hD5 := (hD4.below b44).rebase
               have hV5 := hV4.same (Up.below (lo := w3.heap.size) b44)
               have b5 : Below w.heap.size w _ := b4.trans (b44.mono b4.size)
               have hz5 : w3.heap.size ≤ _ := Nat.le_trans hb4.size b44.size
               have hz4 : w3.heap.size ≤ w4.heap.size := hb4.size
               have fm := dformat_any hD5 (by have := HCL.out; simp only; omega) (by have := HCL.out; simp only; omega) log hl.1 hl.2
               clear mr hD3 hD4 hV4 hb4 b44 hD5)
            | (go_at_call 8
               with_reducible refine fm.mono ?_
               rintro e w7 ⟨rfl, ⟨n7, pv7, hD7⟩, hF7⟩
               have u7 := hF7.up hdw hdbw
               have hV7 := hV5.same u7
               have g157 := (hF7.block _ (hlt g15) (by have := hlt g15; omega)).trans g15
               have hz7 : w3.heap.size ≤ w7.heap.size := Nat.le_trans hz5 hF7.size
               have b7 : Below w.heap.size w w7 := b5.trans (hF7.low b5.size b5.size HD.out HDB.out)
               have rf := rformat_any hV7 hz7 rfl (by have := HCL.out; simp only; omega) log hl.1 hl.2
               obtain ⟨c0, c1, c2, c3, c4, c5⟩ := cells6 g157
               clear fm hF7 hV7 u7 g157)
            | (go_at_call 20
               with_reducible refine rf.mono ?_
               rintro e w8 ⟨⟨X8, B8, rc8, Y8, n8, m8, ft8, wh8, rfl, hV8⟩, hb8⟩
               have b88 := allocB w8 (.cells #[.slice X8 B8 rc8, .slice Y8 n8 m8, .bool false, .int .i64 (-1), .int .i64 ft8, .int .i64 wh8] 50)
               have g18 := heap_alloc_new w8 (.cells #[.slice X8 B8 rc8, .slice Y8 n8 m8, .bool false, .int .i64 (-1), .int .i64 ft8, .int .i64 wh8] 50)
               have sm := samelaw_any ((hD7.below hb8).below b88) (hV8.same (Up.below (lo := w3.heap.size) b88)) (by rw [formatP_len]; have := HCL.out; simp only; omega)
               have b9 : Below w.heap.size w _ := (b7.trans (hb8.mono b7.size)).trans (b88.mono (Nat.le_trans b7.size hb8.size))
               obtain ⟨e0, e1, e2, e3, e4, e5⟩ := cells6 g18
               clear rf hD7 hV8 hb8 b88 g18 c0 c1 c2 c3 c4 c5)
            | (go_at_call 21; with_reducible refine sm.mono ?_; rintro e w10 ⟨rfl, hb10⟩)
            | (go_at_call 13; with_reducible refine (aw _).mono ?_; rintro e w11 ⟨rfl, hb11⟩))
          all_goals first | omega | skip
          go_ret
          exact ⟨rfl, (b9.trans (hb10.mono b9.size)).trans (hb11.mono (Nat.le_trans b9.size hb10.size))⟩
    · skip
      go_enter Tryz.func4, Tryz.ntmps4
      go_wp2_with (first
        | (go_at_call 14; with_reducible refine P60.mono ?_; rintro e w ⟨⟨p, hp, rfl⟩, rfl⟩; have nw := hnew p hp w)
        | (go_at_call 5
           with_reducible refine nw.mono ?_
           rintro e w1 ⟨⟨d, db, rfl, hD, hd, hdb⟩, hb1⟩
           obtain ⟨W2, hW2⟩ : ∃ W2, w1.alloc (.cells #[.slice A la ca, .slice B lb cb] 37) = W2 := ⟨_, rfl⟩
           have b12 : Below w1.heap.size w1 W2 := by rw [← hW2]; exact (Below.refl _ _).alloc (Nat.le_refl _) _
           have g2 : W2.heap[w1.heap.size]? = some (.cells #[.slice A la ca, .slice B lb cb] 37 (0, 0)) := by rw [← hW2]; exact heap_alloc_new w1 _
           have hdl : d < w1.heap.size := hD.box.lt
           have hdbl : db < w1.heap.size := by obtain ⟨cs, hrow, -⟩ := hD.row; exact hlt hrow
           have hD2 := (hD.below b12).rebase
           have b2 : Below w.heap.size w W2 := hb1.trans (b12.mono hb1.size)
           clear hD nw))
      all_goals first | omega | skip
      have HDL := Lib.hid hdl
      have HDBL := Lib.hid hdbl
      have HD := Lib.hid hd
      have HDB := Lib.hid hdb
      have hz1 : w1.heap.size < W2.heap.size := hlt g2
      have HZ1 := Lib.hid hz1
      have HG2 := Lib.hid g2
      have HB2 := Lib.hid b2
      have hzw : w.heap.size ≤ w1.heap.size := hb1.size
      have HZW := Lib.hid hzw
      have rA := (hA.below b2)
      have rB := (hB.below b2)
      clear hdl hdbl hd hdb hz1 g2 b2 hzw b12 hW2 hb1 hA hB
      go_loopw [33] (fun i wr => ∃ (k : Nat) (ws : List (Nat × List UInt8)) (pv : Value), k ≤ 2 ∧ i = .int .i64 k ∧ ws.length ≤ k ∧ Dk wr W2.heap.size d db pv ⟨List.replicate (1 + p) zs, ws, -1, 0⟩ ∧ Fr W2.heap.size d db W2 wr) (fun i _ => 2 - (intOf i).toNat)
      case atStart => exact ⟨0, [], _, by omega, rfl, by simp, hD2, Kp.refl _ _⟩
      case round =>
        clear hD2
        obtain ⟨k, ws, pv, hk, rfl, hwl, hDk, hFr⟩ := hrel
        have hzr : W2.heap.size ≤ wr.heap.size := hFr.size
        have bwr : Below w.heap.size w wr := HB2.out.trans (hFr.low (Nat.le_trans HZW.out (Nat.le_of_lt HZ1.out)) (Nat.le_trans HZW.out (Nat.le_of_lt HZ1.out)) HD.out HDB.out)
        by_cases hk2 : k < 2
        · obtain ⟨Ak, nk, ck, xs, hcell, hrd, hnk, hxl⟩ : ∃ (Ak : Option Addr) (nk ck : Nat) (xs : List UInt8), wr.cell? ⟨w1.heap.size, k, none⟩ = some (.slice Ak nk ck) ∧ Rd wr wr.heap.size Ak xs ∧ nk = xs.length ∧ xs.length ≤ 140737488351232 := by
            have hblk : wr.heap[w1.heap.size]? = some (.cells #[.slice A la ca, .slice B lb cb] 37 (0, 0)) := (hFr.block _ HZ1.out (by have := HDL.out; have := HDBL.out; have := HZ1.out; omega)).trans HG2.out
            have hk01 : k = 0 ∨ k = 1 := by omega
            rcases hk01 with rfl | rfl
            · exact ⟨A, la, ca, a, (cellD hblk 0).trans rfl, ((hA0.below bwr)).more bwr.size, HLA.out, HXA.out⟩
            · exact ⟨B, lb, cb, b, (cellD hblk 1).trans rfl, ((hB0.below bwr)).more bwr.size, HLB.out, HXB.out⟩
          have hkr := hbk wr _ _ _ _ hDk
          have cpy := copy_any Ak ck nk xs wr hrd hnk (by omega)
          have hmeas : 2 - (intOf (Value.int .i64 ((k : Int) + 1))).toNat < 2 - (intOf (Value.int .i64 (k : Int))).toNat := by simp [intOf]; omega
          have HXL := Lib.hid hxl
          clear hrd hnk hxl
          by_cases hkp : k < 1 + p
          · have hkp' : (k : Int) < 1 + (p : Int) := by omega
            go_wp2_with (first
              | (go_at_call 15; with_reducible refine hkr.mono ?_; rintro e wr ⟨rfl, rfl⟩)
              | (go_at_call 16
                 with_reducible refine cpy.mono ?_
                 rintro e w5 ⟨v5, rfl, own5, hb5⟩
                 obtain ⟨A6, c6, w6, hap, hc6, r6, hb6⟩ := fill_any own5 (by have := HXL.out; omega) hb5.size
                 have b6 := hb5.trans (hb6.mono (Nat.le_refl _))
                 have wt := write_any (hDk.below b6) k (by simpa using hkp) A6 c6 (first4 xs) r6.first4 (first4_len xs) (by simp; omega))
              | (at_builtin; refine Lib.wpList_append_run _ rfl _ _ _ _ rfl _ _ rfl rfl _ _ hap ?_; clear hap)
              | (go_at_call 10
                 with_reducible refine wt.mono ?_
                 rintro e w7 ⟨rfl, ⟨pv7, hD7⟩, hF7⟩))
            all_goals first | omega | skip
            refine ⟨⟨k + 1, ws ++ [(k, first4 xs)], pv7, by omega, by go_num, by simp; omega, ?_, ?_⟩, hmeas⟩
            · exact hD7
            · exact (hFr.then (Fr.below b6)).then hF7
          · have hkp' : ¬ (k : Int) < 1 + (p : Int) := by omega
            go_wp2_with (go_at_call 15; with_reducible refine hkr.mono ?_; rintro e wr ⟨rfl, rfl⟩)
            all_goals first | omega | skip
            exact ⟨⟨k + 1, ws, pv, by omega, by go_num, by omega, hDk, hFr⟩, hmeas⟩
        · obtain rfl : k = 2 := by omega
          have sy := sync_any hDk (by simp; omega)
          have hsy : (⟨List.replicate (1 + p) zs, ws, -1, 0⟩ : PD).sync = (⟨carry (List.replicate (1 + p) zs) ws, [], -1, 0⟩, 0) := by simp [PD.sync, opE, opF]
          rw [hsy] at sy
          simp only at sy
          have hcl : (carry (List.replicate (1 + p) zs) ws).length = 1 + p := by rw [carry_len]; simp
          generalize carry (List.replicate (1 + p) zs) ws = bs at sy hcl
          have HCL := Lib.hid hcl
          have hdw3 : d < wr.heap.size := by have := HDL.out; have := HZ1.out; omega
          have hdbw3 : db < wr.heap.size := by have := HDBL.out; have := HZ1.out; omega
          clear hsy hwl hDk hcl
          go_wp2_with (first
            | (go_at_call 12
               with_reducible refine sy.mono ?_
               rintro e w3 ⟨rfl, ⟨pv3, hD3, hpv3⟩, hF3⟩
               have hpv := hpv3 trivial
               subst hpv
               have b3 : Below w.heap.size w w3 := bwr.trans (hF3.low (by have := HZW.out; have := HZ1.out; omega) bwr.size HD.out HDB.out)
               have hdw : d < w3.heap.size := Nat.lt_of_lt_of_le hdw3 hF3.size
               have hdbw : db < w3.heap.size := Nat.lt_of_lt_of_le hdbw3 hF3.size
               have mr := mirror_any hD3 (by have := HCL.out; simp only; omega) (by have := HCL.out; simp only; omega)
               clear hpv3 sy hF3)
            | (go_at_call 17
               with_reducible refine mr.mono ?_
               rintro e w4 ⟨⟨v4, rfl, hV4⟩, hb4⟩
               obtain ⟨X4, B4, rc4, Y4, n4, m4, rfl⟩ := rv_gen1 hV4
               have hD4 := hD3.below hb4
               have b4 : Below w.heap.size w w4 := b3.trans (hb4.mono b3.size)
               have b44 := allocB w4 (.cells #[.slice X4 B4 rc4, .slice Y4 n4 m4, .bool false, .int .i64 (-1), .int .i64 (-1), .int .i64 0] 50)
               have g15 := heap_alloc_new w4 (.cells #[.slice X4 B4 rc4, .slice Y4 n4 m4, .bool false, .int .i64 (-1), .int .i64 (-1), .int .i64 0] 50)
               have hD5 := (hD4.below b44).rebase
               have hV5 := hV4.same (Up.below (lo := w3.heap.size) b44)
               have b5 : Below w.heap.size w _ := b4.trans (b44.mono b4.size)
               have hz5 : w3.heap.size ≤ _ := Nat.le_trans hb4.size b44.size
               have hz4 : w3.heap.size ≤ w4.heap.size := hb4.size
               have fm := dformat_any hD5 (by have := HCL.out; simp only; omega) (by have := HCL.out; simp only; omega) log hl.1 hl.2
               clear mr hD3 hD4 hV4 hb4 b44 hD5)
            | (go_at_call 8
               with_reducible refine fm.mono ?_
               rintro e w7 ⟨rfl, ⟨n7, pv7, hD7⟩, hF7⟩
               have u7 := hF7.up hdw hdbw
               have hV7 := hV5.same u7
               have g157 := (hF7.block _ (hlt g15) (by have := hlt g15; omega)).trans g15
               have hz7 : w3.heap.size ≤ w7.heap.size := Nat.le_trans hz5 hF7.size
               have b7 : Below w.heap.size w w7 := b5.trans (hF7.low b5.size b5.size HD.out HDB.out)
               have rf := rformat_any hV7 hz7 rfl (by have := HCL.out; simp only; omega) log hl.1 hl.2
               obtain ⟨c0, c1, c2, c3, c4, c5⟩ := cells6 g157
               clear fm hF7 hV7 u7 g157)
            | (go_at_call 20
               with_reducible refine rf.mono ?_
               rintro e w8 ⟨⟨X8, B8, rc8, Y8, n8, m8, ft8, wh8, rfl, hV8⟩, hb8⟩
               have b88 := allocB w8 (.cells #[.slice X8 B8 rc8, .slice Y8 n8 m8, .bool false, .int .i64 (-1), .int .i64 ft8, .int .i64 wh8] 50)
               have g18 := heap_alloc_new w8 (.cells #[.slice X8 B8 rc8, .slice Y8 n8 m8, .bool false, .int .i64 (-1), .int .i64 ft8, .int .i64 wh8] 50)
               have sm := samelaw_any ((hD7.below hb8).below b88) (hV8.same (Up.below (lo := w3.heap.size) b88)) (by rw [formatP_len]; have := HCL.out; simp only; omega)
               have b9 : Below w.heap.size w _ := (b7.trans (hb8.mono b7.size)).trans (b88.mono (Nat.le_trans b7.size hb8.size))
               obtain ⟨e0, e1, e2, e3, e4, e5⟩ := cells6 g18
               clear rf hD7 hV8 hb8 b88 g18 c0 c1 c2 c3 c4 c5)
            | (go_at_call 21; with_reducible refine sm.mono ?_; rintro e w10 ⟨rfl, hb10⟩)
            | (go_at_call 13; with_reducible refine (aw _).mono ?_; rintro e w11 ⟨rfl, hb11⟩))
          all_goals first | omega | skip
          go_ret
          exact ⟨rfl, (b9.trans (hb10.mono b9.size)).trans (hb11.mono (Nat.le_trans b9.size hb10.size))⟩

end Go.Proofs.YtecnddogdiikiaaGreat

