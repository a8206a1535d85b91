/-
  Rows of numbers that the call itself makes; append onto such a row; chanceryref15.some: what the call does.
-/
import Derived.Test.YtdmnkhcddbjglaaGreatHSame
import Derived.Test.YtdmnkhcddbjglaaGreatHNum
namespace Go.Proofs.YtdmnkhcddbjglaaGreat
open Go Go.RowKit
set_option maxRecDepth 100000
set_option maxHeartbeats 1600000

abbrev iV (x : Int) : Value := .int .i64 x
def OwnI (w : World) (base : Nat) (v : Value) (l : List Int) : Prop := w.ownsRow base 3 1 v l.length (l.map iV)
theorem Tryz.info3 : (Tryz.prog.info? 3).map (fun i => (i.zero, i.size, i.bytes)) = some (some (.int .i64 0), 1, 8) := by kernel_rfl
section
variable {w w' : World} {B B' : Nat} {A : Option Addr} {l : List Int} {v : Value}
theorem RdI.one (w : World) (x : Int) : RdI (w.alloc (.cells #[iV x] 3)) (w.heap.size + 1) (some ⟨w.heap.size, 0, none⟩) [x] := fun _ =>
  ⟨_, 0, rfl, by omega, fun k hk => by
    obtain rfl : k = 0 := by simpa using hk
    rw [World.cell?_alloc_at _ _ _ _ rfl]; rfl⟩
theorem OwnI.nil (w : World) (base : Nat) : OwnI w base (.slice none 0 0) [] := World.ownsRow_nil _ _ _ _
theorem OwnI.form (h : OwnI w B v l) : (v = .slice none 0 0 ∧ l = []) ∨ ∃ g cap, v = .slice (some ⟨g, 0, none⟩) l.length cap ∧ B ≤ g ∧ g < w.heap.size ∧ l.length ≤ cap ∧ cap ≤ maxLen ∧ ∀ k (hk : k < l.length), w.cell? ⟨g, k, none⟩ = some (iV l[k]) := by
  rcases h.2 with ⟨h1, h2⟩ | ⟨g, cap, cur, h1, h2, h3, h4, h5, h6, h7⟩
  · exact .inl ⟨h1, List.eq_nil_of_length_eq_zero h2⟩
  · refine .inr ⟨g, cap, h1, h2, ?_, h4, h5, fun k hk => ?_⟩
    · rcases Nat.lt_or_ge g w.heap.size with hlt | hge
      · exact hlt
      · rw [Array.getElem?_eq_none hge] at h3; cases h3
    · have e : (cur.toList.take (l.length * 1))[k]? = (l.map iV)[k]? := by rw [h7]
      rw [List.getElem?_take, if_pos (by omega), List.getElem?_map, List.getElem?_eq_getElem hk] at e
      simp only [World.cell?, h3]
      simpa using e
theorem OwnI.slice (h : OwnI w B v l) : ∃ A cap, v = .slice A l.length cap ∧ l.length ≤ cap ∧ cap ≤ maxLen ∧ RdI w w.heap.size A l := by
  rcases h.form with ⟨rfl, rfl⟩ | ⟨g, cap, rfl, _, hlt, h4, h5, hc⟩
  · exact ⟨none, 0, rfl, Nat.le_refl _, Nat.zero_le _, .nil _ _ _⟩
  · exact ⟨_, cap, rfl, h4, h5, fun _ => ⟨g, 0, rfl, hlt, fun k hk => by rw [Nat.zero_add]; exact hc k hk⟩⟩
theorem OwnI.sl {n : Nat} (h : OwnI w B v l) (hn : l.length = n) : ∃ A cap, v = .slice A n cap ∧ n ≤ cap ∧ cap ≤ maxLen ∧ RdI w w.heap.size A l := by subst hn; exact h.slice
theorem OwnI.cast {m : List Int} (h : OwnI w B v l) (e : l = m) : OwnI w B v m := by subst e; exact h
theorem OwnI.blk (h : OwnI w B v l) : ∀ k, v.ownBlock = some k → B ≤ k := by
  intro k hk
  rcases h.form with ⟨rfl, rfl⟩ | ⟨g, cap, rfl, h2, _⟩
  · simp [Value.ownBlock] at hk
  · simp [Value.ownBlock] at hk; omega
theorem OwnI.down (h : OwnI w B v l) (hB : B' ≤ B) : OwnI w B' v l := by
  refine ⟨h.1, ?_⟩
  rcases h.2 with e | ⟨g, cap, cur, h1, h2, h3⟩
  · exact .inl e
  · exact .inr ⟨g, cap, cur, h1, by omega, h3⟩
theorem OwnI.blocks (h : OwnI w B v l) (hb : ∀ k, v.ownBlock = some k → w'.heap[k]? = w.heap[k]?) : OwnI w' B v l := by
  refine ⟨h.1, ?_⟩
  rcases h.2 with e | ⟨g, cap, cur, h1, h2, h3, h4⟩
  · exact .inl e
  · exact .inr ⟨g, cap, cur, h1, h2, (hb g (by rw [h1]; rfl)).trans h3, h4⟩
theorem OwnI.lt (h : OwnI w B v l) : ∀ k, v.ownBlock = some k → k < w.heap.size := by
  intro k hk
  rcases h.form with ⟨rfl, rfl⟩ | ⟨g, cap, rfl, h2, h3, _⟩
  · simp [Value.ownBlock] at hk
  · simp [Value.ownBlock] at hk; omega
theorem OwnI.alloc (h : OwnI w B v l) (o : Obj) : OwnI (w.alloc o) B v l := h.blocks fun k hk => Below.heap_alloc w o k (h.lt k hk)
theorem OwnI.belowS (h : OwnI w B v l) (hb : Below w.heap.size w w') : OwnI w' B v l := h.blocks fun k hk => hb.block k (h.lt k hk)
theorem OwnI.setCell (h : OwnI w B v l) {p : Addr} (hp : v.ownBlock ≠ some p.block) (u : Value) : OwnI (w.setCell p u) B v l :=
  h.blocks fun k hk => Below.heap_setCell w p u k (fun e => hp (by rw [hk, e]))
end

/-- append onto a row of the call's own, from whatever source -/
theorem apI {w : World} {ops : Array Oper} {rest : List Oper} {o : Oper} {a : Act} {Q : Exit → Act → World → Prop} (hgd : o.guard = none) (s x : Operand)
    (ho : o.op = .call { callee := .builtin .append, args := #[s, x], argTypes := #[22, 22] })
    (base : Nat) (v : Value) (l : List Int) (hs : a.eval s = v) (hown : OwnI w base v l) (B : Nat) (A : Option Addr) (m c : Nat) (news : List Int) (hx : a.eval x = .slice A m c) (hm : m = news.length) (hr : RdI w B A news)
    (hlen : l.length + news.length ≤ 1099511627776) (hbase : base ≤ w.heap.size)
    (h : ∀ v' w', OwnI w' base v' (l ++ news) → Below base w w' → (v'.ownBlock = v.ownBlock ∨ v'.ownBlock = some w.heap.size) → w.grownBy w' v.ownBlock → wpList Tryz.prog ops Q rest (a.put o.dst v') w') : wpList Tryz.prog ops Q (o :: rest) a w := by
  obtain ⟨i0, hi, hz0, hz1, hz2⟩ := info_parts Tryz.info3
  subst hm
  have hb := hown.blk
  rcases Nat.eq_zero_or_pos news.length with h0 | h0
  · have hn : news = [] := List.eq_nil_of_length_eq_zero h0
    subst hn
    have hx' : a.eval x = .slice A 0 c := hx
    refine wpList_plain hgd fun _ hK => ?_
    cases A with
    | none =>
      have hrun : (Builtin.append_ #[22, 22] o.type #[v, .slice none 0 c]).run Tryz.prog w = .ok v w := by
        rcases hown.2 with ⟨rfl, _⟩ | ⟨g, cap, cur, rfl, _, _, hnc, _⟩
        · simp [Builtin.append_, run_underlying Tryz.underlying22, sizeOf, typeInfo, hi, Builtin.lenOf, Builtin.firstCells]
        · simp [Builtin.append_, run_underlying Tryz.underlying22, sizeOf, typeInfo, hi, Builtin.lenOf, Builtin.firstCells, hnc, storeCells]
      unfold Oper.wp execOp
      simp only [ho, resolve, invoke, builtin, Sem.run_bind, Sem.run_pure, Result.andThen_ok, List.map_toArray, List.map_cons, List.map_nil, hs, hx', hrun]
      exact hK _ _ (h v w (by simpa using hown) (Below.refl _ _) (.inl rfl) (World.grownBy.refl w _))
    | some ad =>
      obtain ⟨v', w', hrun, h2, h3, _, h5⟩ := run_append_own_at (P := Tryz.prog) w base 22 o.type 3 i0 (.int .i64 0) 1 8 Tryz.underlying22 hi hz0 hz1 hz2 rfl (by decide) v l.length (l.map iV) hown ad 0 c []
        (by simp) (by intro j u hu; simp at hu) (by simp) (by unfold maxLen; omega) (by omega) hbase
      unfold Oper.wp execOp
      simp only [ho, resolve, invoke, builtin, Sem.run_bind, Sem.run_pure, Result.andThen_ok, List.map_toArray, List.map_cons, List.map_nil, hs, hx', hrun]
      exact hK _ _ (h v' w' (by simpa [OwnI] using h2) ⟨h3.os, h3.tape, h3.output, h3.size, fun k hk => h3.block k (by omega) (fun e => by have := hb k e.symm; omega)⟩ h5 h3)
  · obtain ⟨b, off, rfl, hbB, hc⟩ := hr (by rintro rfl; simp at h0)
    refine wpList_plain hgd fun _ hK => ?_
    have hcells : ∀ j u, (news.map iV)[j]? = some u → w.cell? ((⟨b, off, none⟩ : Addr).add j) = some u := by
      intro j u hu
      rw [List.getElem?_map] at hu
      rcases Nat.lt_or_ge j news.length with hj | hj
      · rw [List.getElem?_eq_getElem hj] at hu
        simp only [Option.map_some, Option.some.injEq] at hu
        subst hu
        have : (⟨b, off, none⟩ : Addr).add j = ⟨b, off + j, none⟩ := by unfold Addr.add; split <;> simp_all
        rw [this]; exact hc j hj
      · rw [List.getElem?_eq_none hj] at hu; cases hu
    obtain ⟨v', w', hrun, h2, h3, _, h5⟩ := run_append_own_at (P := Tryz.prog) w base 22 o.type 3 i0 (.int .i64 0) 1 8 Tryz.underlying22 hi hz0 hz1 hz2 rfl (by decide) v l.length (l.map iV) hown ⟨b, off, none⟩ news.length c (news.map iV)
      (by simp) hcells (by intro u hu; simp at hu; obtain ⟨_, _, rfl⟩ := hu; rfl) (by unfold maxLen; omega) (by omega) hbase
    unfold Oper.wp execOp
    simp only [ho, resolve, invoke, builtin, Sem.run_bind, Sem.run_pure, Result.andThen_ok, List.map_toArray, List.map_cons, List.map_nil, hs, hx, hrun]
    exact hK _ _ (h v' w' (by unfold OwnI; rw [List.length_append, List.map_append]; exact h2) ⟨h3.os, h3.tape, h3.output, h3.size, fun k hk => h3.block k (by omega) (fun e => by have := hb k e.symm; omega)⟩ h5 h3)


/-- a number as the code's int has it -/
def sI (v : Nat) : Int := IntKind.i64.wrap (v : Int)
/-- numbers of eight bytes from a place on -/
def dec (l : List UInt8) (p k : Nat) : List Int := (List.range k).map fun i => sI (leN (sub l (p + 8 * i) 8))
theorem dec_len (l : List UInt8) (p k : Nat) : (dec l p k).length = k := by simp [dec]
theorem dec_succ (l : List UInt8) (p k : Nat) : dec l p (k + 1) = dec l p k ++ [sI (leN (sub l (p + 8 * k) 8))] := by simp [dec, List.range_succ]

theorem refnum2 (A : Option Addr) (c n : Nat) (p : Nat) (l : List UInt8) (w : World) (hr : Rd w w.heap.size A l) (hn : n = l.length) (hl : l.length ≤ 1000000) (hp : p + 2 ≤ l.length) :
    Calls Tryz.prog 56 #[.slice A n c, .int .i64 p, .int .i64 2] w fun e w' => e = .returned (.tuple #[.int .u64 (leN (sub l p 2) : Nat), .bool true]) ∧ w' = w := refnumber_any A c n 2 p l w hr hn hl (by omega) hp
theorem refnum4 (A : Option Addr) (c n : Nat) (p : Nat) (l : List UInt8) (w : World) (hr : Rd w w.heap.size A l) (hn : n = l.length) (hl : l.length ≤ 1000000) (hp : p + 4 ≤ l.length) :
    Calls Tryz.prog 56 #[.slice A n c, .int .i64 p, .int .i64 4] w fun e w' => e = .returned (.tuple #[.int .u64 (leN (sub l p 4) : Nat), .bool true]) ∧ w' = w := refnumber_any A c n 4 p l w hr hn hl (by omega) hp
theorem refnum8 (A : Option Addr) (c n : Nat) (p : Nat) (l : List UInt8) (w : World) (hr : Rd w w.heap.size A l) (hn : n = l.length) (hl : l.length ≤ 1000000) (hp : p + 8 ≤ l.length) :
    Calls Tryz.prog 56 #[.slice A n c, .int .i64 p, .int .i64 8] w fun e w' => e = .returned (.tuple #[.int .u64 (leN (sub l p 8) : Nat), .bool true]) ∧ w' = w := refnumber_any A c n 8 p l w hr hn hl (by omega) hp

theorem some_any (A : Option Addr) (c n p most : Nat) (l : List UInt8) (w : World) (hr : Rd w w.heap.size A l) (hn : n = l.length) (hl : l.length ≤ 1000000) (hp : p + 2 + 8 * (most + 1) ≤ l.length) :
    Calls Tryz.prog 57 #[.slice A n c, .int .i64 p, .int .i64 most] w fun e w' => (∃ v, e = .returned (.tuple #[v, .int .i64 ((p + 2 + 8 * min (leN (sub l p 2)) (most + 1) : Nat) : Int)]) ∧ OwnI w' w.heap.size v (dec l (p + 2) (min (leN (sub l p 2)) (most + 1)))) ∧ Below w.heap.size w w' := by
  obtain ⟨N, hN⟩ : ∃ N, N = leN (sub l p 2) := ⟨_, rfl⟩
  obtain ⟨K, hK⟩ : ∃ K, K = min N (most + 1) := ⟨_, rfl⟩
  have hN2 : N < 65536 := by rw [hN]; exact leN_sub_lt (l := l) (p := p) (k := 2) (by omega)
  have HN := Lib.hid hn
  have HP := Lib.hid hp
  have hpl : p + 2 ≤ l.length := by omega
  have hmo : most ≤ 1000000 := by omega
  have hpm : p ≤ 1000000 := by omega
  rw [← hN, ← hK]
  have HK := Lib.hid hK
  have HNN := Lib.hid hN
  clear hn hp hK hN
  go_enter Tryz.func57, Tryz.ntmps57
  go_wp2_with (go_at_call 56; with_reducible refine (refnum2 A c n p l _ hr HN.out hl hpl).mono ?_; rintro e w1 ⟨rfl, rfl⟩; rw [← HNN.out])
  go_loopw [1, 10, 11] (fun a v i wr => ∃ j q : Nat, j ≤ K ∧ q = p + 2 + 8 * j ∧ a = .int .i64 (q : Int) ∧ i = .int .i64 j ∧ OwnI wr w1.heap.size v (dec l (p + 2) j) ∧ Below w1.heap.size w1 wr) (fun _ _ i _ => K - (intOf i).toNat)
  case atStart => exact ⟨0, p + 2, by omega, rfl, rfl, rfl, .nil _ _, Below.refl _ _⟩
  case round =>
    obtain ⟨j, q, hj, hq, rfl, rfl, hown, hb⟩ := hrel
    have hz := hb.size
    have hjm : j ≤ most + 1 := by have := HK.out; omega
    have hql : q ≤ 20000000 := by omega
    by_cases hlt : j < K
    · have h1 : j < N := by have := HK.out; omega
      have h2 : j ≤ most := by have := HK.out; omega
      have hq8 : q + 8 ≤ l.length := by have := HP.out; omega
      have HQ := Lib.hid hq8
      obtain ⟨V, hV⟩ : ∃ V, V = leN (sub l q 8) := ⟨_, rfl⟩
      have hV2 : V ≤ 18446744073709551615 := by have := leN_sub_lt hq8; rw [hV]; omega
      have HV := Lib.hid hV
      have HE := Lib.hid hq
      have hrd := (hr.below hb).more hz
      have hsi : IntKind.i64.wrap (V : Int) = sI V := rfl
      clear hV hq8 hq
      go_wp2_with (first
        | (go_at_call 56; with_reducible refine (refnum8 A c n q l _ hrd HN.out hl HQ.out).mono ?_; rintro e w2 ⟨rfl, rfl⟩; rw [← HV.out])
        | (at_builtin; refine apI rfl (.tmp 39) (.tmp 42) rfl w1.heap.size _ _ rfl (hown.alloc _) _ _ 1 1 [sI V] rfl rfl (RdI.one _ _) ?c1 ?c2 ?_))
      case c1 => simp [dec_len]; omega
      case c2 => simp; omega
      intro v' w3 hown3 hb3 _ _
      have hown3' := hown3.cast (m := dec l (p + 2) (j + 1)) (by rw [dec_succ, ← HE.out, ← HV.out])
      have hbb3 := (hb.alloc hz _).trans hb3
      clear hown3 hb3 hown hrd
      go_wp2
      go_roundw
      case rel => exact ⟨j + 1, q + 8, by omega, by have := HE.out; omega, by go_num, by go_num, hown3', hbb3⟩
      case measure => simp [intOf] <;> omega
    · obtain rfl : j = K := by omega
      have HE := Lib.hid hq
      clear hq
      by_cases h1 : j < N
      · have h2 : ¬ j ≤ most := by have := HK.out; omega
        go_wp2
        go_ret2
        exact ⟨⟨_, by rw [← HE.out]; rfl, hown⟩, hb⟩
      · go_wp2
        go_ret2
        exact ⟨⟨_, by rw [← HE.out]; rfl, hown⟩, hb⟩

end Go.Proofs.YtdmnkhcddbjglaaGreat
