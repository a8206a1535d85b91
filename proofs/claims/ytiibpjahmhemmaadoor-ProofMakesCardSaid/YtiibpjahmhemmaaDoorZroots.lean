/-
  The words of the roots, as chanceryref28.root reckons them.
-/
import Derived.Test.YtiibpjahmhemmaaDoorKprime
import Derived.Test.YtiibpjahmhemmaaDoorKroot
namespace Go.Proofs.YtiibpjahmhemmaaDoor
open Go Go.Ev
noncomputable def sqN (i : Nat) : Nat := rootN (primeL.getD i 0) false
noncomputable def cuN (i : Nat) : Nat := rootN (primeL.getD i 0) true
theorem sq0 : rootN 2 false = 1779033703 := by kernel_rfl
theorem sq1 : rootN 3 false = 3144134277 := by kernel_rfl
theorem sq2 : rootN 5 false = 1013904242 := by kernel_rfl
theorem sq3 : rootN 7 false = 2773480762 := by kernel_rfl
theorem sq4 : rootN 11 false = 1359893119 := by kernel_rfl
theorem sq5 : rootN 13 false = 2600822924 := by kernel_rfl
theorem sq6 : rootN 17 false = 528734635 := by kernel_rfl
theorem sq7 : rootN 19 false = 1541459225 := by kernel_rfl
theorem cu0 : rootN 2 true = 1116352408 := by kernel_rfl
theorem cu1 : rootN 3 true = 1899447441 := by kernel_rfl
theorem cu2 : rootN 5 true = 3049323471 := by kernel_rfl
theorem cu3 : rootN 7 true = 3921009573 := by kernel_rfl
theorem cu4 : rootN 11 true = 961987163 := by kernel_rfl
theorem cu5 : rootN 13 true = 1508970993 := by kernel_rfl
theorem cu6 : rootN 17 true = 2453635748 := by kernel_rfl
theorem cu7 : rootN 19 true = 2870763221 := by kernel_rfl
theorem cu8 : rootN 23 true = 3624381080 := by kernel_rfl
theorem cu9 : rootN 29 true = 310598401 := by kernel_rfl
theorem cu10 : rootN 31 true = 607225278 := by kernel_rfl
theorem cu11 : rootN 37 true = 1426881987 := by kernel_rfl
theorem cu12 : rootN 41 true = 1925078388 := by kernel_rfl
theorem cu13 : rootN 43 true = 2162078206 := by kernel_rfl
theorem cu14 : rootN 47 true = 2614888103 := by kernel_rfl
theorem cu15 : rootN 53 true = 3248222580 := by kernel_rfl
theorem cu16 : rootN 59 true = 3835390401 := by kernel_rfl
theorem cu17 : rootN 61 true = 4022224774 := by kernel_rfl
theorem cu18 : rootN 67 true = 264347078 := by kernel_rfl
theorem cu19 : rootN 71 true = 604807628 := by kernel_rfl
theorem cu20 : rootN 73 true = 770255983 := by kernel_rfl
theorem cu21 : rootN 79 true = 1249150122 := by kernel_rfl
theorem cu22 : rootN 83 true = 1555081692 := by kernel_rfl
theorem cu23 : rootN 89 true = 1996064986 := by kernel_rfl
theorem cu24 : rootN 97 true = 2554220882 := by kernel_rfl
theorem cu25 : rootN 101 true = 2821834349 := by kernel_rfl
theorem cu26 : rootN 103 true = 2952996808 := by kernel_rfl
theorem cu27 : rootN 107 true = 3210313671 := by kernel_rfl
theorem cu28 : rootN 109 true = 3336571891 := by kernel_rfl
theorem cu29 : rootN 113 true = 3584528711 := by kernel_rfl
theorem cu30 : rootN 127 true = 113926993 := by kernel_rfl
theorem cu31 : rootN 131 true = 338241895 := by kernel_rfl
theorem cu32 : rootN 137 true = 666307205 := by kernel_rfl
theorem cu33 : rootN 139 true = 773529912 := by kernel_rfl
theorem cu34 : rootN 149 true = 1294757372 := by kernel_rfl
theorem cu35 : rootN 151 true = 1396182291 := by kernel_rfl
theorem cu36 : rootN 157 true = 1695183700 := by kernel_rfl
theorem cu37 : rootN 163 true = 1986661051 := by kernel_rfl
theorem cu38 : rootN 167 true = 2177026350 := by kernel_rfl
theorem cu39 : rootN 173 true = 2456956037 := by kernel_rfl
theorem cu40 : rootN 179 true = 2730485921 := by kernel_rfl
theorem cu41 : rootN 181 true = 2820302411 := by kernel_rfl
theorem cu42 : rootN 191 true = 3259730800 := by kernel_rfl
theorem cu43 : rootN 193 true = 3345764771 := by kernel_rfl
theorem cu44 : rootN 197 true = 3516065817 := by kernel_rfl
theorem cu45 : rootN 199 true = 3600352804 := by kernel_rfl
theorem cu46 : rootN 211 true = 4094571909 := by kernel_rfl
theorem cu47 : rootN 223 true = 275423344 := by kernel_rfl
theorem cu48 : rootN 227 true = 430227734 := by kernel_rfl
theorem cu49 : rootN 229 true = 506948616 := by kernel_rfl
theorem cu50 : rootN 233 true = 659060556 := by kernel_rfl
theorem cu51 : rootN 239 true = 883997877 := by kernel_rfl
theorem cu52 : rootN 241 true = 958139571 := by kernel_rfl
theorem cu53 : rootN 251 true = 1322822218 := by kernel_rfl
theorem cu54 : rootN 257 true = 1537002063 := by kernel_rfl
theorem cu55 : rootN 263 true = 1747873779 := by kernel_rfl
theorem cu56 : rootN 269 true = 1955562222 := by kernel_rfl
theorem cu57 : rootN 271 true = 2024104815 := by kernel_rfl
theorem cu58 : rootN 277 true = 2227730452 := by kernel_rfl
theorem cu59 : rootN 281 true = 2361852424 := by kernel_rfl
theorem cu60 : rootN 283 true = 2428436474 := by kernel_rfl
theorem cu61 : rootN 293 true = 2756734187 := by kernel_rfl
theorem cu62 : rootN 307 true = 3204031479 := by kernel_rfl
theorem cu63 : rootN 311 true = 3329325298 := by kernel_rfl
theorem sq_all (t : Nat) (h2 : t < 8) : sqN t = hIni t := by
  have : t = 0 ∨ t = 1 ∨ t = 2 ∨ t = 3 ∨ t = 4 ∨ t = 5 ∨ t = 6 ∨ t = 7 := by omega
  rcases this with rfl | rfl | rfl | rfl | rfl | rfl | rfl | rfl
  · exact sq0
  · exact sq1
  · exact sq2
  · exact sq3
  · exact sq4
  · exact sq5
  · exact sq6
  · exact sq7
theorem cu_all (t : Nat) (h2 : t < 64) : cuN t = rootK t := by
  have : t = 0 ∨ t = 1 ∨ t = 2 ∨ t = 3 ∨ t = 4 ∨ t = 5 ∨ t = 6 ∨ t = 7 ∨ t = 8 ∨ t = 9 ∨ t = 10 ∨ t = 11 ∨ t = 12 ∨ t = 13 ∨ t = 14 ∨ t = 15 ∨ t = 16 ∨ t = 17 ∨ t = 18 ∨ t = 19 ∨ t = 20 ∨ t = 21 ∨ t = 22 ∨ t = 23 ∨ t = 24 ∨ t = 25 ∨ t = 26 ∨ t = 27 ∨ t = 28 ∨ t = 29 ∨ t = 30 ∨ t = 31 ∨ t = 32 ∨ t = 33 ∨ t = 34 ∨ t = 35 ∨ t = 36 ∨ t = 37 ∨ t = 38 ∨ t = 39 ∨ t = 40 ∨ t = 41 ∨ t = 42 ∨ t = 43 ∨ t = 44 ∨ t = 45 ∨ t = 46 ∨ t = 47 ∨ t = 48 ∨ t = 49 ∨ t = 50 ∨ t = 51 ∨ t = 52 ∨ t = 53 ∨ t = 54 ∨ t = 55 ∨ t = 56 ∨ t = 57 ∨ t = 58 ∨ t = 59 ∨ t = 60 ∨ t = 61 ∨ t = 62 ∨ t = 63 := by omega
  rcases this with rfl | rfl | rfl | rfl | rfl | rfl | rfl | rfl | rfl | rfl | rfl | rfl | rfl | rfl | rfl | rfl | rfl | rfl | rfl | rfl | rfl | rfl | rfl | rfl | rfl | rfl | rfl | rfl | rfl | rfl | rfl | rfl | rfl | rfl | rfl | rfl | rfl | rfl | rfl | rfl | rfl | rfl | rfl | rfl | rfl | rfl | rfl | rfl | rfl | rfl | rfl | rfl | rfl | rfl | rfl | rfl | rfl | rfl | rfl | rfl | rfl | rfl | rfl | rfl
  · exact cu0
  · exact cu1
  · exact cu2
  · exact cu3
  · exact cu4
  · exact cu5
  · exact cu6
  · exact cu7
  · exact cu8
  · exact cu9
  · exact cu10
  · exact cu11
  · exact cu12
  · exact cu13
  · exact cu14
  · exact cu15
  · exact cu16
  · exact cu17
  · exact cu18
  · exact cu19
  · exact cu20
  · exact cu21
  · exact cu22
  · exact cu23
  · exact cu24
  · exact cu25
  · exact cu26
  · exact cu27
  · exact cu28
  · exact cu29
  · exact cu30
  · exact cu31
  · exact cu32
  · exact cu33
  · exact cu34
  · exact cu35
  · exact cu36
  · exact cu37
  · exact cu38
  · exact cu39
  · exact cu40
  · exact cu41
  · exact cu42
  · exact cu43
  · exact cu44
  · exact cu45
  · exact cu46
  · exact cu47
  · exact cu48
  · exact cu49
  · exact cu50
  · exact cu51
  · exact cu52
  · exact cu53
  · exact cu54
  · exact cu55
  · exact cu56
  · exact cu57
  · exact cu58
  · exact cu59
  · exact cu60
  · exact cu61
  · exact cu62
  · exact cu63
end Go.Proofs.YtiibpjahmhemmaaDoor
