/-
  The digest of the bytes 97, 98, 99.
-/
import Derived.Test.YtiibpjahmhemmaaDoorKproof
namespace Go.Proofs.YtiibpjahmhemmaaDoor
open Go Go.RowKit
open Go.Ev (mixS packB updN ldAll ldw exAll exw rnds rnd finAll wAll toS8 byte outN)
set_option maxRecDepth 100000

def rootL : List Nat := [1116352408, 1899447441, 3049323471, 3921009573, 961987163, 1508970993, 2453635748, 2870763221, 3624381080, 310598401, 607225278, 1426881987, 1925078388, 2162078206, 2614888103, 3248222580, 3835390401, 4022224774, 264347078, 604807628, 770255983, 1249150122, 1555081692, 1996064986, 2554220882, 2821834349, 2952996808, 3210313671, 3336571891, 3584528711, 113926993, 338241895, 666307205, 773529912, 1294757372, 1396182291, 1695183700, 1986661051, 2177026350, 2456956037, 2730485921, 2820302411, 3259730800, 3345764771, 3516065817, 3600352804, 4094571909, 275423344, 430227734, 506948616, 659060556, 883997877, 958139571, 1322822218, 1537002063, 1747873779, 1955562222, 2024104815, 2227730452, 2361852424, 2428436474, 2756734187, 3204031479, 3329325298]
def rootK : Nat → Nat := fun i => rootL.getD i 0
def abcL : List Nat := [1633837952, 0, 0, 0, 0, 0, 0, 0, 0, 0, 0, 0, 0, 0, 0, 24, 1633837952, 983040, 2108187653, 1610613702, 1050508152, 25426944, 316456923, 3806512014, 3357629466, 3073800610, 3854317833, 845560923, 2636160359, 3968280267, 1881225380, 3552024379, 2482346367, 996719219, 2952069057, 4043988066, 176896406, 1924104970, 2483675966, 610538786, 2672279444, 4037431130, 1042573945, 657669027, 206005234, 2215296807, 2049510749, 106709978, 4215179723, 3430291419, 3118885940, 2845390439, 2226839261, 3256115900, 344409900, 2987358873, 4015503821, 3957764664, 2682456414, 2025622859, 2755645205, 1720397816, 4004225740, 313650667]
def abcW : Nat → Nat := fun i => abcL.getD i 0
def abcM : Nat := packB (((padL [97, 98, 99]).drop (64 * 0)).take 64)
theorem abcM_eq : abcM = 1256981993432118478085064843581798074451190545680536879161583885348915377819395029075175715453147196345940486704983067267539426513619990932478156748317281 := by kernel_rfl

theorem rnds_congr {K W W' : Nat → Nat} {s : Go.Ev.S8} : ∀ t, (∀ i, i < t → W i = W' i) → rnds K W s t = rnds K W' s t := by
  intro t
  induction t with
  | zero => intro _; rfl
  | succ t ih =>
    intro h
    show rnd K W t (rnds K W s t) = rnd K W' t (rnds K W' s t)
    rw [ih fun i hi => h i (by omega)]
    unfold rnd
    rw [h t (by omega)]
theorem updN_get (W : Nat → Nat) (t v i : Nat) : updN W t v i = if i = t then v else W i := by
  unfold updN
  by_cases h : i = t
  · rw [if_pos h, Go.Ev.beq_iff.2 h]
  · rw [if_neg h]
    cases hb : Nat.beq i t with
    | false => rfl
    | true => exact absurd (Go.Ev.beq_iff.1 hb) h
theorem ldA0 : ldw (fun _ => 0) 1256981993432118478085064843581798074451190545680536879161583885348915377819395029075175715453147196345940486704983067267539426513619990932478156748317281 0 = abcW 0 := by kernel_rfl
theorem ldA1 : ldw (fun _ => 0) 1256981993432118478085064843581798074451190545680536879161583885348915377819395029075175715453147196345940486704983067267539426513619990932478156748317281 1 = abcW 1 := by kernel_rfl
theorem ldA2 : ldw (fun _ => 0) 1256981993432118478085064843581798074451190545680536879161583885348915377819395029075175715453147196345940486704983067267539426513619990932478156748317281 2 = abcW 2 := by kernel_rfl
theorem ldA3 : ldw (fun _ => 0) 1256981993432118478085064843581798074451190545680536879161583885348915377819395029075175715453147196345940486704983067267539426513619990932478156748317281 3 = abcW 3 := by kernel_rfl
theorem ldA4 : ldw (fun _ => 0) 1256981993432118478085064843581798074451190545680536879161583885348915377819395029075175715453147196345940486704983067267539426513619990932478156748317281 4 = abcW 4 := by kernel_rfl
theorem ldA5 : ldw (fun _ => 0) 1256981993432118478085064843581798074451190545680536879161583885348915377819395029075175715453147196345940486704983067267539426513619990932478156748317281 5 = abcW 5 := by kernel_rfl
theorem ldA6 : ldw (fun _ => 0) 1256981993432118478085064843581798074451190545680536879161583885348915377819395029075175715453147196345940486704983067267539426513619990932478156748317281 6 = abcW 6 := by kernel_rfl
theorem ldA7 : ldw (fun _ => 0) 1256981993432118478085064843581798074451190545680536879161583885348915377819395029075175715453147196345940486704983067267539426513619990932478156748317281 7 = abcW 7 := by kernel_rfl
theorem ldA8 : ldw (fun _ => 0) 1256981993432118478085064843581798074451190545680536879161583885348915377819395029075175715453147196345940486704983067267539426513619990932478156748317281 8 = abcW 8 := by kernel_rfl
theorem ldA9 : ldw (fun _ => 0) 1256981993432118478085064843581798074451190545680536879161583885348915377819395029075175715453147196345940486704983067267539426513619990932478156748317281 9 = abcW 9 := by kernel_rfl
theorem ldA10 : ldw (fun _ => 0) 1256981993432118478085064843581798074451190545680536879161583885348915377819395029075175715453147196345940486704983067267539426513619990932478156748317281 10 = abcW 10 := by kernel_rfl
theorem ldA11 : ldw (fun _ => 0) 1256981993432118478085064843581798074451190545680536879161583885348915377819395029075175715453147196345940486704983067267539426513619990932478156748317281 11 = abcW 11 := by kernel_rfl
theorem ldA12 : ldw (fun _ => 0) 1256981993432118478085064843581798074451190545680536879161583885348915377819395029075175715453147196345940486704983067267539426513619990932478156748317281 12 = abcW 12 := by kernel_rfl
theorem ldA13 : ldw (fun _ => 0) 1256981993432118478085064843581798074451190545680536879161583885348915377819395029075175715453147196345940486704983067267539426513619990932478156748317281 13 = abcW 13 := by kernel_rfl
theorem ldA14 : ldw (fun _ => 0) 1256981993432118478085064843581798074451190545680536879161583885348915377819395029075175715453147196345940486704983067267539426513619990932478156748317281 14 = abcW 14 := by kernel_rfl
theorem ldA15 : ldw (fun _ => 0) 1256981993432118478085064843581798074451190545680536879161583885348915377819395029075175715453147196345940486704983067267539426513619990932478156748317281 15 = abcW 15 := by kernel_rfl
theorem ldw_abc : ∀ t, t < 16 → ldw (fun _ => 0) abcM t = abcW t := by
  intro t ht
  rw [abcM_eq]
  have : t = 0 ∨ t = 1 ∨ t = 2 ∨ t = 3 ∨ t = 4 ∨ t = 5 ∨ t = 6 ∨ t = 7 ∨ t = 8 ∨ t = 9 ∨ t = 10 ∨ t = 11 ∨ t = 12 ∨ t = 13 ∨ t = 14 ∨ t = 15 := by omega
  rcases this with rfl | rfl | rfl | rfl | rfl | rfl | rfl | rfl | rfl | rfl | rfl | rfl | rfl | rfl | rfl | rfl
  · exact ldA0
  · exact ldA1
  · exact ldA2
  · exact ldA3
  · exact ldA4
  · exact ldA5
  · exact ldA6
  · exact ldA7
  · exact ldA8
  · exact ldA9
  · exact ldA10
  · exact ldA11
  · exact ldA12
  · exact ldA13
  · exact ldA14
  · exact ldA15
theorem ldAll_zero (m : Nat) : ∀ t i, t ≤ i → ldAll m t i = 0 := by
  intro t
  induction t with
  | zero => intro i _; rfl
  | succ t ih => intro i hi; show updN _ _ _ _ = _; rw [updN_get, if_neg (by omega)]; exact ih i (by omega)
theorem ldw_at (W W' : Nat → Nat) (m t : Nat) (h : W t = W' t) : ldw W m t = ldw W' m t := by unfold ldw; rw [h]
theorem ldAll_abc : ∀ t, t ≤ 16 → ∀ i, i < t → ldAll abcM t i = abcW i := by
  intro t
  induction t with
  | zero => intro _ i hi; omega
  | succ t ih =>
    intro ht i hi
    show updN _ _ _ _ = _
    rw [updN_get]
    by_cases e : i = t
    · rw [if_pos e, e, ← ldw_abc t (by omega)]
      exact ldw_at _ _ _ _ (ldAll_zero abcM t t (Nat.le_refl _))
    · rw [if_neg e]; exact ih (by omega) i (by omega)
theorem exw_at (W W' : Nat → Nat) (t : Nat) (ht : 16 ≤ t) (h : ∀ i, i < t → W i = W' i) : exw W t = exw W' t := by
  unfold exw; rw [h (t - 2) (by omega), h (t - 7) (by omega), h (t - 15) (by omega), h (t - 16) (by omega)]
theorem exA16 : exw abcW 16 = abcW 16 := by kernel_rfl
theorem exA17 : exw abcW 17 = abcW 17 := by kernel_rfl
theorem exA18 : exw abcW 18 = abcW 18 := by kernel_rfl
theorem exA19 : exw abcW 19 = abcW 19 := by kernel_rfl
theorem exA20 : exw abcW 20 = abcW 20 := by kernel_rfl
theorem exA21 : exw abcW 21 = abcW 21 := by kernel_rfl
theorem exA22 : exw abcW 22 = abcW 22 := by kernel_rfl
theorem exA23 : exw abcW 23 = abcW 23 := by kernel_rfl
theorem exA24 : exw abcW 24 = abcW 24 := by kernel_rfl
theorem exA25 : exw abcW 25 = abcW 25 := by kernel_rfl
theorem exA26 : exw abcW 26 = abcW 26 := by kernel_rfl
theorem exA27 : exw abcW 27 = abcW 27 := by kernel_rfl
theorem exA28 : exw abcW 28 = abcW 28 := by kernel_rfl
theorem exA29 : exw abcW 29 = abcW 29 := by kernel_rfl
theorem exA30 : exw abcW 30 = abcW 30 := by kernel_rfl
theorem exA31 : exw abcW 31 = abcW 31 := by kernel_rfl
theorem exA32 : exw abcW 32 = abcW 32 := by kernel_rfl
theorem exA33 : exw abcW 33 = abcW 33 := by kernel_rfl
theorem exA34 : exw abcW 34 = abcW 34 := by kernel_rfl
theorem exA35 : exw abcW 35 = abcW 35 := by kernel_rfl
theorem exA36 : exw abcW 36 = abcW 36 := by kernel_rfl
theorem exA37 : exw abcW 37 = abcW 37 := by kernel_rfl
theorem exA38 : exw abcW 38 = abcW 38 := by kernel_rfl
theorem exA39 : exw abcW 39 = abcW 39 := by kernel_rfl
theorem exA40 : exw abcW 40 = abcW 40 := by kernel_rfl
theorem exA41 : exw abcW 41 = abcW 41 := by kernel_rfl
theorem exA42 : exw abcW 42 = abcW 42 := by kernel_rfl
theorem exA43 : exw abcW 43 = abcW 43 := by kernel_rfl
theorem exA44 : exw abcW 44 = abcW 44 := by kernel_rfl
theorem exA45 : exw abcW 45 = abcW 45 := by kernel_rfl
theorem exA46 : exw abcW 46 = abcW 46 := by kernel_rfl
theorem exA47 : exw abcW 47 = abcW 47 := by kernel_rfl
theorem exA48 : exw abcW 48 = abcW 48 := by kernel_rfl
theorem exA49 : exw abcW 49 = abcW 49 := by kernel_rfl
theorem exA50 : exw abcW 50 = abcW 50 := by kernel_rfl
theorem exA51 : exw abcW 51 = abcW 51 := by kernel_rfl
theorem exA52 : exw abcW 52 = abcW 52 := by kernel_rfl
theorem exA53 : exw abcW 53 = abcW 53 := by kernel_rfl
theorem exA54 : exw abcW 54 = abcW 54 := by kernel_rfl
theorem exA55 : exw abcW 55 = abcW 55 := by kernel_rfl
theorem exA56 : exw abcW 56 = abcW 56 := by kernel_rfl
theorem exA57 : exw abcW 57 = abcW 57 := by kernel_rfl
theorem exA58 : exw abcW 58 = abcW 58 := by kernel_rfl
theorem exA59 : exw abcW 59 = abcW 59 := by kernel_rfl
theorem exA60 : exw abcW 60 = abcW 60 := by kernel_rfl
theorem exA61 : exw abcW 61 = abcW 61 := by kernel_rfl
theorem exA62 : exw abcW 62 = abcW 62 := by kernel_rfl
theorem exA63 : exw abcW 63 = abcW 63 := by kernel_rfl
theorem exw_abc : ∀ t, 16 ≤ t → t < 64 → exw abcW t = abcW t := by
  intro t h1 h2
  have : t = 16 ∨ t = 17 ∨ t = 18 ∨ t = 19 ∨ t = 20 ∨ t = 21 ∨ t = 22 ∨ t = 23 ∨ t = 24 ∨ t = 25 ∨ t = 26 ∨ t = 27 ∨ t = 28 ∨ t = 29 ∨ t = 30 ∨ t = 31 ∨ t = 32 ∨ t = 33 ∨ t = 34 ∨ t = 35 ∨ t = 36 ∨ t = 37 ∨ t = 38 ∨ t = 39 ∨ t = 40 ∨ t = 41 ∨ t = 42 ∨ t = 43 ∨ t = 44 ∨ t = 45 ∨ t = 46 ∨ t = 47 ∨ t = 48 ∨ t = 49 ∨ t = 50 ∨ t = 51 ∨ t = 52 ∨ t = 53 ∨ t = 54 ∨ t = 55 ∨ t = 56 ∨ t = 57 ∨ t = 58 ∨ t = 59 ∨ t = 60 ∨ t = 61 ∨ t = 62 ∨ t = 63 := by omega
  rcases this with rfl | rfl | rfl | rfl | rfl | rfl | rfl | rfl | rfl | rfl | rfl | rfl | rfl | rfl | rfl | rfl | rfl | rfl | rfl | rfl | rfl | rfl | rfl | rfl | rfl | rfl | rfl | rfl | rfl | rfl | rfl | rfl | rfl | rfl | rfl | rfl | rfl | rfl | rfl | rfl | rfl | rfl | rfl | rfl | rfl | rfl | rfl | rfl
  · exact exA16
  · exact exA17
  · exact exA18
  · exact exA19
  · exact exA20
  · exact exA21
  · exact exA22
  · exact exA23
  · exact exA24
  · exact exA25
  · exact exA26
  · exact exA27
  · exact exA28
  · exact exA29
  · exact exA30
  · exact exA31
  · exact exA32
  · exact exA33
  · exact exA34
  · exact exA35
  · exact exA36
  · exact exA37
  · exact exA38
  · exact exA39
  · exact exA40
  · exact exA41
  · exact exA42
  · exact exA43
  · exact exA44
  · exact exA45
  · exact exA46
  · exact exA47
  · exact exA48
  · exact exA49
  · exact exA50
  · exact exA51
  · exact exA52
  · exact exA53
  · exact exA54
  · exact exA55
  · exact exA56
  · exact exA57
  · exact exA58
  · exact exA59
  · exact exA60
  · exact exA61
  · exact exA62
  · exact exA63
theorem exAll_abc : ∀ k, k ≤ 48 → ∀ i, i < 16 + k → exAll (ldAll abcM 16) k i = abcW i := by
  intro k
  induction k with
  | zero => intro _ i hi; exact ldAll_abc 16 (by omega) i (by omega)
  | succ k ih =>
    intro hk i hi
    show updN _ _ _ _ = _
    rw [updN_get]
    by_cases e : i = 16 + k
    · rw [if_pos e, e, exw_at _ abcW (16 + k) (by omega) (ih (by omega)), exw_abc _ (by omega) (by omega)]
    · rw [if_neg e]; exact ih (by omega) i (by omega)
theorem stA0 : rnds rootK abcW (toS8 hIni) 0 = ⟨1779033703, 3144134277, 1013904242, 2773480762, 1359893119, 2600822924, 528734635, 1541459225⟩ := by kernel_rfl
theorem stA1 : rnds rootK abcW (toS8 hIni) 1 = ⟨1567288269, 1779033703, 3144134277, 1013904242, 4197074466, 1359893119, 2600822924, 528734635⟩ := by
  show rnd rootK abcW 0 (rnds rootK abcW (toS8 hIni) 0) = _
  rw [stA0]
  kernel_rfl
theorem stA2 : rnds rootK abcW (toS8 hIni) 2 = ⟨1516951981, 1567288269, 1779033703, 3144134277, 2026797449, 4197074466, 1359893119, 2600822924⟩ := by
  show rnd rootK abcW 1 (rnds rootK abcW (toS8 hIni) 1) = _
  rw [stA1]
  kernel_rfl
theorem stA3 : rnds rootK abcW (toS8 hIni) 3 = ⟨3368241063, 1516951981, 1567288269, 1779033703, 4180228587, 2026797449, 4197074466, 1359893119⟩ := by
  show rnd rootK abcW 2 (rnds rootK abcW (toS8 hIni) 2) = _
  rw [stA2]
  kernel_rfl
theorem stA4 : rnds rootK abcW (toS8 hIni) 4 = ⟨3578852966, 3368241063, 1516951981, 1567288269, 618661968, 4180228587, 2026797449, 4197074466⟩ := by
  show rnd rootK abcW 3 (rnds rootK abcW (toS8 hIni) 3) = _
  rw [stA3]
  kernel_rfl
theorem stA5 : rnds rootK abcW (toS8 hIni) 5 = ⟨71342698, 3578852966, 3368241063, 1516951981, 1135452741, 618661968, 4180228587, 2026797449⟩ := by
  show rnd rootK abcW 4 (rnds rootK abcW (toS8 hIni) 4) = _
  rw [stA4]
  kernel_rfl
theorem stA6 : rnds rootK abcW (toS8 hIni) 6 = ⟨725748213, 71342698, 3578852966, 3368241063, 1900175533, 1135452741, 618661968, 4180228587⟩ := by
  show rnd rootK abcW 5 (rnds rootK abcW (toS8 hIni) 5) = _
  rw [stA5]
  kernel_rfl
theorem stA7 : rnds rootK abcW (toS8 hIni) 7 = ⟨3842179968, 725748213, 71342698, 3578852966, 2603066369, 1900175533, 1135452741, 618661968⟩ := by
  show rnd rootK abcW 6 (rnds rootK abcW (toS8 hIni) 6) = _
  rw [stA6]
  kernel_rfl
theorem stA8 : rnds rootK abcW (toS8 hIni) 8 = ⟨2241887071, 3842179968, 725748213, 71342698, 207977081, 2603066369, 1900175533, 1135452741⟩ := by
  show rnd rootK abcW 7 (rnds rootK abcW (toS8 hIni) 7) = _
  rw [stA7]
  kernel_rfl
theorem stA9 : rnds rootK abcW (toS8 hIni) 9 = ⟨2382687417, 2241887071, 3842179968, 725748213, 852110732, 207977081, 2603066369, 1900175533⟩ := by
  show rnd rootK abcW 8 (rnds rootK abcW (toS8 hIni) 8) = _
  rw [stA8]
  kernel_rfl
theorem stA10 : rnds rootK abcW (toS8 hIni) 10 = ⟨2357671019, 2382687417, 2241887071, 3842179968, 482944406, 852110732, 207977081, 2603066369⟩ := by
  show rnd rootK abcW 9 (rnds rootK abcW (toS8 hIni) 9) = _
  rw [stA9]
  kernel_rfl
theorem stA11 : rnds rootK abcW (toS8 hIni) 11 = ⟨1201185780, 2357671019, 2382687417, 2241887071, 1131095016, 482944406, 852110732, 207977081⟩ := by
  show rnd rootK abcW 10 (rnds rootK abcW (toS8 hIni) 10) = _
  rw [stA10]
  kernel_rfl
theorem stA12 : rnds rootK abcW (toS8 hIni) 12 = ⟨4146054569, 1201185780, 2357671019, 2382687417, 2171590377, 1131095016, 482944406, 852110732⟩ := by
  show rnd rootK abcW 11 (rnds rootK abcW (toS8 hIni) 11) = _
  rw [stA11]
  kernel_rfl
theorem stA13 : rnds rootK abcW (toS8 hIni) 13 = ⟨2274437520, 4146054569, 1201185780, 2357671019, 509051416, 2171590377, 1131095016, 482944406⟩ := by
  show rnd rootK abcW 12 (rnds rootK abcW (toS8 hIni) 12) = _
  rw [stA12]
  kernel_rfl
theorem stA14 : rnds rootK abcW (toS8 hIni) 14 = ⟨3643992854, 2274437520, 4146054569, 1201185780, 1952073950, 509051416, 2171590377, 1131095016⟩ := by
  show rnd rootK abcW 13 (rnds rootK abcW (toS8 hIni) 13) = _
  rw [stA13]
  kernel_rfl
theorem stA15 : rnds rootK abcW (toS8 hIni) 15 = ⟨3227803614, 3643992854, 2274437520, 4146054569, 194179596, 1952073950, 509051416, 2171590377⟩ := by
  show rnd rootK abcW 14 (rnds rootK abcW (toS8 hIni) 14) = _
  rw [stA14]
  kernel_rfl
theorem stA16 : rnds rootK abcW (toS8 hIni) 16 = ⟨2969183118, 3227803614, 3643992854, 2274437520, 123276749, 194179596, 1952073950, 509051416⟩ := by
  show rnd rootK abcW 15 (rnds rootK abcW (toS8 hIni) 15) = _
  rw [stA15]
  kernel_rfl
theorem stA17 : rnds rootK abcW (toS8 hIni) 17 = ⟨567974555, 2969183118, 3227803614, 3643992854, 2150900380, 123276749, 194179596, 1952073950⟩ := by
  show rnd rootK abcW 16 (rnds rootK abcW (toS8 hIni) 16) = _
  rw [stA16]
  kernel_rfl
theorem stA18 : rnds rootK abcW (toS8 hIni) 18 = ⟨3271285201, 567974555, 2969183118, 3227803614, 2221859924, 2150900380, 123276749, 194179596⟩ := by
  show rnd rootK abcW 17 (rnds rootK abcW (toS8 hIni) 17) = _
  rw [stA17]
  kernel_rfl
theorem stA19 : rnds rootK abcW (toS8 hIni) 19 = ⟨4269243327, 3271285201, 567974555, 2969183118, 3431569761, 2221859924, 2150900380, 123276749⟩ := by
  show rnd rootK abcW 18 (rnds rootK abcW (toS8 hIni) 18) = _
  rw [stA18]
  kernel_rfl
theorem stA20 : rnds rootK abcW (toS8 hIni) 20 = ⟨3790736435, 4269243327, 3271285201, 567974555, 2959311225, 3431569761, 2221859924, 2150900380⟩ := by
  show rnd rootK abcW 19 (rnds rootK abcW (toS8 hIni) 19) = _
  rw [stA19]
  kernel_rfl
theorem stA21 : rnds rootK abcW (toS8 hIni) 21 = ⟨2647034723, 3790736435, 4269243327, 3271285201, 2329577776, 2959311225, 3431569761, 2221859924⟩ := by
  show rnd rootK abcW 20 (rnds rootK abcW (toS8 hIni) 20) = _
  rw [stA20]
  kernel_rfl
theorem stA22 : rnds rootK abcW (toS8 hIni) 22 = ⟨3261099373, 2647034723, 3790736435, 4269243327, 3777329520, 2329577776, 2959311225, 3431569761⟩ := by
  show rnd rootK abcW 21 (rnds rootK abcW (toS8 hIni) 21) = _
  rw [stA21]
  kernel_rfl
theorem stA23 : rnds rootK abcW (toS8 hIni) 23 = ⟨2812502591, 3261099373, 2647034723, 3790736435, 1240797514, 3777329520, 2329577776, 2959311225⟩ := by
  show rnd rootK abcW 22 (rnds rootK abcW (toS8 hIni) 22) = _
  rw [stA22]
  kernel_rfl
theorem stA24 : rnds rootK abcW (toS8 hIni) 24 = ⟨3319086477, 2812502591, 3261099373, 2647034723, 2856829767, 1240797514, 3777329520, 2329577776⟩ := by
  show rnd rootK abcW 23 (rnds rootK abcW (toS8 hIni) 23) = _
  rw [stA23]
  kernel_rfl
theorem stA25 : rnds rootK abcW (toS8 hIni) 25 = ⟨472655928, 3319086477, 2812502591, 3261099373, 673443729, 2856829767, 1240797514, 3777329520⟩ := by
  show rnd rootK abcW 24 (rnds rootK abcW (toS8 hIni) 24) = _
  rw [stA24]
  kernel_rfl
theorem stA26 : rnds rootK abcW (toS8 hIni) 26 = ⟨3454534525, 472655928, 3319086477, 2812502591, 339230094, 673443729, 2856829767, 1240797514⟩ := by
  show rnd rootK abcW 25 (rnds rootK abcW (toS8 hIni) 25) = _
  rw [stA25]
  kernel_rfl
theorem stA27 : rnds rootK abcW (toS8 hIni) 27 = ⟨3056518332, 3454534525, 472655928, 3319086477, 3343672598, 339230094, 673443729, 2856829767⟩ := by
  show rnd rootK abcW 26 (rnds rootK abcW (toS8 hIni) 26) = _
  rw [stA26]
  kernel_rfl
theorem stA28 : rnds rootK abcW (toS8 hIni) 28 = ⟨2010346792, 3056518332, 3454534525, 472655928, 3992961016, 3343672598, 339230094, 673443729⟩ := by
  show rnd rootK abcW 27 (rnds rootK abcW (toS8 hIni) 27) = _
  rw [stA27]
  kernel_rfl
theorem stA29 : rnds rootK abcW (toS8 hIni) 29 = ⟨909411017, 2010346792, 3056518332, 3454534525, 1628611511, 3992961016, 3343672598, 339230094⟩ := by
  show rnd rootK abcW 28 (rnds rootK abcW (toS8 hIni) 28) = _
  rw [stA28]
  kernel_rfl
theorem stA30 : rnds rootK abcW (toS8 hIni) 30 = ⟨2684750640, 909411017, 2010346792, 3056518332, 2917635127, 1628611511, 3992961016, 3343672598⟩ := by
  show rnd rootK abcW 29 (rnds rootK abcW (toS8 hIni) 29) = _
  rw [stA29]
  kernel_rfl
theorem stA31 : rnds rootK abcW (toS8 hIni) 31 = ⟨3935906338, 2684750640, 909411017, 2010346792, 17410874, 2917635127, 1628611511, 3992961016⟩ := by
  show rnd rootK abcW 30 (rnds rootK abcW (toS8 hIni) 30) = _
  rw [stA30]
  kernel_rfl
theorem stA32 : rnds rootK abcW (toS8 hIni) 32 = ⟨1941126133, 3935906338, 2684750640, 909411017, 3126399250, 17410874, 2917635127, 1628611511⟩ := by
  show rnd rootK abcW 31 (rnds rootK abcW (toS8 hIni) 31) = _
  rw [stA31]
  kernel_rfl
theorem stA33 : rnds rootK abcW (toS8 hIni) 33 = ⟨2564891911, 1941126133, 3935906338, 2684750640, 2631529974, 3126399250, 17410874, 2917635127⟩ := by
  show rnd rootK abcW 32 (rnds rootK abcW (toS8 hIni) 32) = _
  rw [stA32]
  kernel_rfl
theorem stA34 : rnds rootK abcW (toS8 hIni) 34 = ⟨4267724277, 2564891911, 1941126133, 3935906338, 1495571923, 2631529974, 3126399250, 17410874⟩ := by
  show rnd rootK abcW 33 (rnds rootK abcW (toS8 hIni) 33) = _
  rw [stA33]
  kernel_rfl
theorem stA35 : rnds rootK abcW (toS8 hIni) 35 = ⟨2846323596, 4267724277, 2564891911, 1941126133, 140458035, 1495571923, 2631529974, 3126399250⟩ := by
  show rnd rootK abcW 34 (rnds rootK abcW (toS8 hIni) 34) = _
  rw [stA34]
  kernel_rfl
theorem stA36 : rnds rootK abcW (toS8 hIni) 36 = ⟨1705037796, 2846323596, 4267724277, 2564891911, 4105175766, 140458035, 1495571923, 2631529974⟩ := by
  show rnd rootK abcW 35 (rnds rootK abcW (toS8 hIni) 35) = _
  rw [stA35]
  kernel_rfl
theorem stA37 : rnds rootK abcW (toS8 hIni) 37 = ⟨1101421745, 1705037796, 2846323596, 4267724277, 124953195, 4105175766, 140458035, 1495571923⟩ := by
  show rnd rootK abcW 36 (rnds rootK abcW (toS8 hIni) 36) = _
  rw [stA36]
  kernel_rfl
theorem stA38 : rnds rootK abcW (toS8 hIni) 38 = ⟨887035396, 1101421745, 1705037796, 2846323596, 2768741693, 124953195, 4105175766, 140458035⟩ := by
  show rnd rootK abcW 37 (rnds rootK abcW (toS8 hIni) 37) = _
  rw [stA37]
  kernel_rfl
theorem stA39 : rnds rootK abcW (toS8 hIni) 39 = ⟨1841658506, 887035396, 1101421745, 1705037796, 4034403272, 2768741693, 124953195, 4105175766⟩ := by
  show rnd rootK abcW 38 (rnds rootK abcW (toS8 hIni) 38) = _
  rw [stA38]
  kernel_rfl
theorem stA40 : rnds rootK abcW (toS8 hIni) 40 = ⟨2045405306, 1841658506, 887035396, 1101421745, 519815328, 4034403272, 2768741693, 124953195⟩ := by
  show rnd rootK abcW 39 (rnds rootK abcW (toS8 hIni) 39) = _
  rw [stA39]
  kernel_rfl
theorem stA41 : rnds rootK abcW (toS8 hIni) 41 = ⟨3597076326, 2045405306, 1841658506, 887035396, 641019235, 519815328, 4034403272, 2768741693⟩ := by
  show rnd rootK abcW 40 (rnds rootK abcW (toS8 hIni) 40) = _
  rw [stA40]
  kernel_rfl
theorem stA42 : rnds rootK abcW (toS8 hIni) 42 = ⟨3745932591, 3597076326, 2045405306, 1841658506, 2206934801, 641019235, 519815328, 4034403272⟩ := by
  show rnd rootK abcW 41 (rnds rootK abcW (toS8 hIni) 41) = _
  rw [stA41]
  kernel_rfl
theorem stA43 : rnds rootK abcW (toS8 hIni) 43 = ⟨397020670, 3745932591, 3597076326, 2045405306, 3737995029, 2206934801, 641019235, 519815328⟩ := by
  show rnd rootK abcW 42 (rnds rootK abcW (toS8 hIni) 42) = _
  rw [stA42]
  kernel_rfl
theorem stA44 : rnds rootK abcW (toS8 hIni) 44 = ⟨2638983059, 397020670, 3745932591, 3597076326, 4255271982, 3737995029, 2206934801, 641019235⟩ := by
  show rnd rootK abcW 43 (rnds rootK abcW (toS8 hIni) 43) = _
  rw [stA43]
  kernel_rfl
theorem stA45 : rnds rootK abcW (toS8 hIni) 45 = ⟨643991573, 2638983059, 397020670, 3745932591, 2819559920, 4255271982, 3737995029, 2206934801⟩ := by
  show rnd rootK abcW 44 (rnds rootK abcW (toS8 hIni) 44) = _
  rw [stA44]
  kernel_rfl
theorem stA46 : rnds rootK abcW (toS8 hIni) 46 = ⟨1923828625, 643991573, 2638983059, 397020670, 3077922209, 2819559920, 4255271982, 3737995029⟩ := by
  show rnd rootK abcW 45 (rnds rootK abcW (toS8 hIni) 45) = _
  rw [stA45]
  kernel_rfl
theorem stA47 : rnds rootK abcW (toS8 hIni) 47 = ⟨2706117808, 1923828625, 643991573, 2638983059, 3581645993, 3077922209, 2819559920, 4255271982⟩ := by
  show rnd rootK abcW 46 (rnds rootK abcW (toS8 hIni) 46) = _
  rw [stA46]
  kernel_rfl
theorem stA48 : rnds rootK abcW (toS8 hIni) 48 = ⟨1098003085, 2706117808, 1923828625, 643991573, 4274981830, 3581645993, 3077922209, 2819559920⟩ := by
  show rnd rootK abcW 47 (rnds rootK abcW (toS8 hIni) 47) = _
  rw [stA47]
  kernel_rfl
theorem stA49 : rnds rootK abcW (toS8 hIni) 49 = ⟨91585771, 1098003085, 2706117808, 1923828625, 3178315832, 4274981830, 3581645993, 3077922209⟩ := by
  show rnd rootK abcW 48 (rnds rootK abcW (toS8 hIni) 48) = _
  rw [stA48]
  kernel_rfl
theorem stA50 : rnds rootK abcW (toS8 hIni) 50 = ⟨4045142696, 91585771, 1098003085, 2706117808, 1851537676, 3178315832, 4274981830, 3581645993⟩ := by
  show rnd rootK abcW 49 (rnds rootK abcW (toS8 hIni) 49) = _
  rw [stA49]
  kernel_rfl
theorem stA51 : rnds rootK abcW (toS8 hIni) 51 = ⟨2047150241, 4045142696, 91585771, 1098003085, 1391578359, 1851537676, 3178315832, 4274981830⟩ := by
  show rnd rootK abcW 50 (rnds rootK abcW (toS8 hIni) 50) = _
  rw [stA50]
  kernel_rfl
theorem stA52 : rnds rootK abcW (toS8 hIni) 52 = ⟨2288941602, 2047150241, 4045142696, 91585771, 1227037726, 1391578359, 1851537676, 3178315832⟩ := by
  show rnd rootK abcW 51 (rnds rootK abcW (toS8 hIni) 51) = _
  rw [stA51]
  kernel_rfl
theorem stA53 : rnds rootK abcW (toS8 hIni) 53 = ⟨270520975, 2288941602, 2047150241, 4045142696, 1386118400, 1227037726, 1391578359, 1851537676⟩ := by
  show rnd rootK abcW 52 (rnds rootK abcW (toS8 hIni) 52) = _
  rw [stA52]
  kernel_rfl
theorem stA54 : rnds rootK abcW (toS8 hIni) 54 = ⟨4117770203, 270520975, 2288941602, 2047150241, 2672265155, 1386118400, 1227037726, 1391578359⟩ := by
  show rnd rootK abcW 53 (rnds rootK abcW (toS8 hIni) 53) = _
  rw [stA53]
  kernel_rfl
theorem stA55 : rnds rootK abcW (toS8 hIni) 55 = ⟨1053056219, 4117770203, 270520975, 2288941602, 3842906959, 2672265155, 1386118400, 1227037726⟩ := by
  show rnd rootK abcW 54 (rnds rootK abcW (toS8 hIni) 54) = _
  rw [stA54]
  kernel_rfl
theorem stA56 : rnds rootK abcW (toS8 hIni) 56 = ⟨952932627, 1053056219, 4117770203, 270520975, 1422599787, 3842906959, 2672265155, 1386118400⟩ := by
  show rnd rootK abcW 55 (rnds rootK abcW (toS8 hIni) 55) = _
  rw [stA55]
  kernel_rfl
theorem stA57 : rnds rootK abcW (toS8 hIni) 57 = ⟨4241590395, 952932627, 1053056219, 4117770203, 2606665836, 1422599787, 3842906959, 2672265155⟩ := by
  show rnd rootK abcW 56 (rnds rootK abcW (toS8 hIni) 56) = _
  rw [stA56]
  kernel_rfl
theorem stA58 : rnds rootK abcW (toS8 hIni) 58 = ⟨3227702383, 4241590395, 952932627, 1053056219, 2118385806, 2606665836, 1422599787, 3842906959⟩ := by
  show rnd rootK abcW 57 (rnds rootK abcW (toS8 hIni) 57) = _
  rw [stA57]
  kernel_rfl
theorem stA59 : rnds rootK abcW (toS8 hIni) 59 = ⟨4290184306, 3227702383, 4241590395, 952932627, 1837350854, 2118385806, 2606665836, 1422599787⟩ := by
  show rnd rootK abcW 58 (rnds rootK abcW (toS8 hIni) 58) = _
  rw [stA58]
  kernel_rfl
theorem stA60 : rnds rootK abcW (toS8 hIni) 60 = ⟨3064893439, 4290184306, 3227702383, 4241590395, 2988158269, 1837350854, 2118385806, 2606665836⟩ := by
  show rnd rootK abcW 59 (rnds rootK abcW (toS8 hIni) 59) = _
  rw [stA59]
  kernel_rfl
theorem stA61 : rnds rootK abcW (toS8 hIni) 61 = ⟨3093179625, 3064893439, 4290184306, 3227702383, 2518632596, 2988158269, 1837350854, 2118385806⟩ := by
  show rnd rootK abcW 60 (rnds rootK abcW (toS8 hIni) 60) = _
  rw [stA60]
  kernel_rfl
theorem stA62 : rnds rootK abcW (toS8 hIni) 62 = ⟨80891244, 3093179625, 3064893439, 4290184306, 2492278198, 2518632596, 2988158269, 1837350854⟩ := by
  show rnd rootK abcW 61 (rnds rootK abcW (toS8 hIni) 61) = _
  rw [stA61]
  kernel_rfl
theorem stA63 : rnds rootK abcW (toS8 hIni) 63 = ⟨3550093669, 80891244, 3093179625, 3064893439, 4212265488, 2492278198, 2518632596, 2988158269⟩ := by
  show rnd rootK abcW 62 (rnds rootK abcW (toS8 hIni) 62) = _
  rw [stA62]
  kernel_rfl
theorem stA64 : rnds rootK abcW (toS8 hIni) 64 = ⟨1349398616, 3550093669, 80891244, 3093179625, 1593118500, 4212265488, 2492278198, 2518632596⟩ := by
  show rnd rootK abcW 63 (rnds rootK abcW (toS8 hIni) 63) = _
  rw [stA63]
  kernel_rfl
theorem mix_abc : mixS rootK hIni abcM = finAll hIni (Go.Ev.S8.get ⟨1349398616, 3550093669, 80891244, 3093179625, 1593118500, 4212265488, 2492278198, 2518632596⟩) 8 := by
  unfold mixS
  have h := rnds_congr (K := rootK) (W := wAll abcM) (W' := abcW) (s := toS8 hIni) 64 (fun i hi => exAll_abc 48 (by omega) i (by omega))
  rw [h, stA64]
theorem sha_abc : shaH rootK [97, 98, 99] = finAll hIni (Go.Ev.S8.get ⟨1349398616, 3550093669, 80891244, 3093179625, 1593118500, 4212265488, 2492278198, 2518632596⟩) 8 := by
  unfold shaH
  rw [show (padL [97, 98, 99]).length / 64 = 1 by kernel_rfl]
  exact mix_abc
theorem abcA : (shaB rootK [97, 98, 99])[0]? = some 186 := by
  unfold shaB; rw [sha_abc]; kernel_rfl
theorem abcB : (shaB rootK [97, 98, 99])[1]? = some 120 := by
  unfold shaB; rw [sha_abc]; kernel_rfl
theorem abcC : (shaB rootK [97, 98, 99])[31]? = some 173 := by
  unfold shaB; rw [sha_abc]; kernel_rfl
end Go.Proofs.YtiibpjahmhemmaaDoor
