/-
  No cell of these rows narrows 'for every input' (looked for: loops, veiled, ifaces, maps, wideKeys, modest, calm, conditions, laid).
  DERIVED. THE GIVEN ROWS OF THIS SEAT. 8 by the template 'for every input the law returns true; each argument reads behind the call as it read before'; 0 by the template 'total and deterministic' (their statements: YtdbkocfbhpgpkaaGreatTotals.lean).
  GIVEN WITH THE SEED: the statements are not yours to turn. If you find one false, say at which input.
  Laid BY PROGRAM, IN A SANDBOX (cutbox-rows.mjs): the forced cells as the released guide's own fill.sh prints them over the translation a2a4d99739e712ed… (all of the seat's roots in one cut). By AI agents, Wed Nov 11 2026. No macro, syntax, notation, axiom, sorry.
-/
import Derived.Test.YtdbkocfbhpgpkaaGreatChecked
import GoSem.Claim
import GoSem.ClaimJoined
import GoSem.ClaimMapViews
import Derived.JoinedTies
import Derived.KernelRfl
namespace Go.Proofs.YtdbkocfbhpgpkaaGreat
/- THE CELL 'sum', in the pinned program and in every row, IS THE sha256 OF THE DUMP (.gsa) THAT YtdbkocfbhpgpkaaGreatProg.lean LOADS. Nothing in Lean hashes anything: it is a label: what it is worth is what the hold of that sum in a sandbox is worth. -/
noncomputable def Tryz.pinned : Pinned := { name := "ytdbkocfbhpgpkaagreat", sum := "a2a4d99739e712edc676b92d8e1a72714d4c23552b7b069de84378e2ecafc499", checked := Tryz.checked }
namespace Rows
def none {H : Type} : Left H := { results := [], args := [] }

/-- 'chancerylaw15.StoreSynced': WHATEVER THE INPUT: true; the input reads as it did. -/
def storeSyncedSpec : ChangeSpec := { name := "storeSynced", fn := fun _ => fun
  | [d] => { results := [.lit (.bool true)], args := [d] }
  | _ => none }
def storeSyncedRow : OpenClaim := { program := "ytdbkocfbhpgpkaagreat", sum := "a2a4d99739e712edc676b92d8e1a72714d4c23552b7b069de84378e2ecafc499", func := "chancery/chancerylaw15.StoreSynced", spec := "storeSynced", inPlace := ["sync/atomic.StoreInt64", "internal/bytealg.Compare", "sync/atomic.LoadInt64", "sync/atomic.AddInt64", "slices.overlaps[chancery/api.Cell]", "sync/atomic.LoadUint32", "(*internal/sync.Mutex).Lock", "internal/race.Disable", "sync/atomic.CompareAndSwapInt32", "internal/race.Enable", "internal/race.Acquire", "(*internal/sync.Mutex).lockSlow", "internal/sync.runtime_canSpin", "internal/sync.runtime_doSpin", "internal/sync.throw", "internal/sync.runtime_nanotime", "internal/sync.runtime_SemacquireMutex", "sync/atomic.AddInt32", "(*internal/sync.Mutex).Unlock", "internal/race.ReleaseMerge", "(*internal/sync.Mutex).unlockSlow", "internal/sync.fatal", "internal/sync.runtime_Semrelease", "sync/atomic.StoreUint32"], unfollowed := true, recurses := true, apart := false }
def StoreSyncedSaid : Prop := storeSyncedRow.holds Tryz.pinned (OpenSpec.ofChange storeSyncedSpec)

/-- ITS FALSE NEIGHBOUR: 'it returns false'. Refute it at one input. -/
def storeSyncedWrong : ChangeSpec := { name := "storeSynced", fn := fun _ => fun
  | [d] => { results := [.lit (.bool false)], args := [d] }
  | _ => none }
def StoreSyncedWrongFalsely : Prop := storeSyncedRow.holds Tryz.pinned (OpenSpec.ofChange storeSyncedWrong)

/-- 'chancerylaw15.StoreBack': WHATEVER THE INPUT: true; the input reads as it did. -/
def storeBackSpec : ChangeSpec := { name := "storeBack", fn := fun _ => fun
  | [d1, d2, d3] => { results := [.lit (.bool true)], args := [d1, d2, d3] }
  | _ => none }
def storeBackRow : OpenClaim := { program := "ytdbkocfbhpgpkaagreat", sum := "a2a4d99739e712edc676b92d8e1a72714d4c23552b7b069de84378e2ecafc499", func := "chancery/chancerylaw15.StoreBack", spec := "storeBack", inPlace := ["sync/atomic.StoreInt64", "internal/bytealg.Compare", "sync/atomic.LoadInt64", "sync/atomic.AddInt64", "slices.overlaps[chancery/api.Cell]", "sync/atomic.LoadUint32", "(*internal/sync.Mutex).Lock", "internal/race.Disable", "sync/atomic.CompareAndSwapInt32", "internal/race.Enable", "internal/race.Acquire", "(*internal/sync.Mutex).lockSlow", "internal/sync.runtime_canSpin", "internal/sync.runtime_doSpin", "internal/sync.throw", "internal/sync.runtime_nanotime", "internal/sync.runtime_SemacquireMutex", "sync/atomic.AddInt32", "(*internal/sync.Mutex).Unlock", "internal/race.ReleaseMerge", "(*internal/sync.Mutex).unlockSlow", "internal/sync.fatal", "internal/sync.runtime_Semrelease", "sync/atomic.StoreUint32"], unfollowed := true, recurses := true, apart := false }
def StoreBackSaid : Prop := storeBackRow.holds Tryz.pinned (OpenSpec.ofChange storeBackSpec)

/-- ITS FALSE NEIGHBOUR: 'it returns false'. Refute it at one input. -/
def storeBackWrong : ChangeSpec := { name := "storeBack", fn := fun _ => fun
  | [d1, d2, d3] => { results := [.lit (.bool false)], args := [d1, d2, d3] }
  | _ => none }
def StoreBackWrongFalsely : Prop := storeBackRow.holds Tryz.pinned (OpenSpec.ofChange storeBackWrong)

/-- 'chancerylaw15.StoreIsolated': WHATEVER THE INPUT: true; the input reads as it did. -/
def storeIsolatedSpec : ChangeSpec := { name := "storeIsolated", fn := fun _ => fun
  | [d1, d2] => { results := [.lit (.bool true)], args := [d1, d2] }
  | _ => none }
def storeIsolatedRow : OpenClaim := { program := "ytdbkocfbhpgpkaagreat", sum := "a2a4d99739e712edc676b92d8e1a72714d4c23552b7b069de84378e2ecafc499", func := "chancery/chancerylaw15.StoreIsolated", spec := "storeIsolated", inPlace := ["sync/atomic.StoreInt64", "internal/bytealg.Compare", "sync/atomic.LoadInt64", "sync/atomic.AddInt64", "slices.overlaps[chancery/api.Cell]", "sync/atomic.LoadUint32", "(*internal/sync.Mutex).Lock", "internal/race.Disable", "sync/atomic.CompareAndSwapInt32", "internal/race.Enable", "internal/race.Acquire", "(*internal/sync.Mutex).lockSlow", "internal/sync.runtime_canSpin", "internal/sync.runtime_doSpin", "internal/sync.throw", "internal/sync.runtime_nanotime", "internal/sync.runtime_SemacquireMutex", "sync/atomic.AddInt32", "(*internal/sync.Mutex).Unlock", "internal/race.ReleaseMerge", "(*internal/sync.Mutex).unlockSlow", "internal/sync.fatal", "internal/sync.runtime_Semrelease", "sync/atomic.StoreUint32"], unfollowed := true, recurses := true, apart := false }
def StoreIsolatedSaid : Prop := storeIsolatedRow.holds Tryz.pinned (OpenSpec.ofChange storeIsolatedSpec)

/-- ITS FALSE NEIGHBOUR: 'it returns false'. Refute it at one input. -/
def storeIsolatedWrong : ChangeSpec := { name := "storeIsolated", fn := fun _ => fun
  | [d1, d2] => { results := [.lit (.bool false)], args := [d1, d2] }
  | _ => none }
def StoreIsolatedWrongFalsely : Prop := storeIsolatedRow.holds Tryz.pinned (OpenSpec.ofChange storeIsolatedWrong)

/-- 'chancerylaw15.StoreCare': WHATEVER THE INPUT: true; the input reads as it did. -/
def storeCareSpec : ChangeSpec := { name := "storeCare", fn := fun _ => fun
  | [d1, d2, d3] => { results := [.lit (.bool true)], args := [d1, d2, d3] }
  | _ => none }
def storeCareRow : OpenClaim := { program := "ytdbkocfbhpgpkaagreat", sum := "a2a4d99739e712edc676b92d8e1a72714d4c23552b7b069de84378e2ecafc499", func := "chancery/chancerylaw15.StoreCare", spec := "storeCare", inPlace := ["sync/atomic.StoreInt64", "internal/bytealg.Compare", "sync/atomic.LoadInt64", "sync/atomic.AddInt64", "slices.overlaps[chancery/api.Cell]", "sync/atomic.LoadUint32", "(*internal/sync.Mutex).Lock", "internal/race.Disable", "sync/atomic.CompareAndSwapInt32", "internal/race.Enable", "internal/race.Acquire", "(*internal/sync.Mutex).lockSlow", "internal/sync.runtime_canSpin", "internal/sync.runtime_doSpin", "internal/sync.throw", "internal/sync.runtime_nanotime", "internal/sync.runtime_SemacquireMutex", "sync/atomic.AddInt32", "(*internal/sync.Mutex).Unlock", "internal/race.ReleaseMerge", "(*internal/sync.Mutex).unlockSlow", "internal/sync.fatal", "internal/sync.runtime_Semrelease", "sync/atomic.StoreUint32"], unfollowed := true, recurses := true, apart := false }
def StoreCareSaid : Prop := storeCareRow.holds Tryz.pinned (OpenSpec.ofChange storeCareSpec)

/-- ITS FALSE NEIGHBOUR: 'it returns false'. Refute it at one input. -/
def storeCareWrong : ChangeSpec := { name := "storeCare", fn := fun _ => fun
  | [d1, d2, d3] => { results := [.lit (.bool false)], args := [d1, d2, d3] }
  | _ => none }
def StoreCareWrongFalsely : Prop := storeCareRow.holds Tryz.pinned (OpenSpec.ofChange storeCareWrong)

/-- 'chancerylaw15.StorePlays': WHATEVER THE INPUT: true; the input reads as it did. -/
def storePlaysSpec : ChangeSpec := { name := "storePlays", fn := fun _ => fun
  | [d1, d2, d3] => { results := [.lit (.bool true)], args := [d1, d2, d3] }
  | _ => none }
def storePlaysRow : OpenClaim := { program := "ytdbkocfbhpgpkaagreat", sum := "a2a4d99739e712edc676b92d8e1a72714d4c23552b7b069de84378e2ecafc499", func := "chancery/chancerylaw15.StorePlays", spec := "storePlays", inPlace := ["sync/atomic.StoreInt64", "internal/bytealg.Compare", "sync/atomic.LoadInt64", "sync/atomic.AddInt64", "slices.overlaps[chancery/api.Cell]", "sync/atomic.LoadUint32", "(*internal/sync.Mutex).Lock", "internal/race.Disable", "sync/atomic.CompareAndSwapInt32", "internal/race.Enable", "internal/race.Acquire", "(*internal/sync.Mutex).lockSlow", "internal/sync.runtime_canSpin", "internal/sync.runtime_doSpin", "internal/sync.throw", "internal/sync.runtime_nanotime", "internal/sync.runtime_SemacquireMutex", "sync/atomic.AddInt32", "(*internal/sync.Mutex).Unlock", "internal/race.ReleaseMerge", "(*internal/sync.Mutex).unlockSlow", "internal/sync.fatal", "internal/sync.runtime_Semrelease", "sync/atomic.StoreUint32"], unfollowed := true, recurses := true, apart := false }
def StorePlaysSaid : Prop := storePlaysRow.holds Tryz.pinned (OpenSpec.ofChange storePlaysSpec)

/-- ITS FALSE NEIGHBOUR: 'it returns false'. Refute it at one input. -/
def storePlaysWrong : ChangeSpec := { name := "storePlays", fn := fun _ => fun
  | [d1, d2, d3] => { results := [.lit (.bool false)], args := [d1, d2, d3] }
  | _ => none }
def StorePlaysWrongFalsely : Prop := storePlaysRow.holds Tryz.pinned (OpenSpec.ofChange storePlaysWrong)

/-- 'chancerylaw16.ReviveQuiet': WHATEVER THE INPUT: true; the input reads as it did. -/
def reviveQuietSpec : ChangeSpec := { name := "reviveQuiet", fn := fun _ => fun
  | [d1, d2, d3] => { results := [.lit (.bool true)], args := [d1, d2, d3] }
  | _ => none }
def reviveQuietRow : OpenClaim := { program := "ytdbkocfbhpgpkaagreat", sum := "a2a4d99739e712edc676b92d8e1a72714d4c23552b7b069de84378e2ecafc499", func := "chancery/chancerylaw16.ReviveQuiet", spec := "reviveQuiet", inPlace := ["sync/atomic.StoreInt64", "internal/bytealg.Compare", "sync/atomic.LoadInt64", "sync/atomic.AddInt64", "slices.overlaps[chancery/api.Cell]", "sync/atomic.LoadUint32", "(*internal/sync.Mutex).Lock", "internal/race.Disable", "sync/atomic.CompareAndSwapInt32", "internal/race.Enable", "internal/race.Acquire", "(*internal/sync.Mutex).lockSlow", "internal/sync.runtime_canSpin", "internal/sync.runtime_doSpin", "internal/sync.throw", "internal/sync.runtime_nanotime", "internal/sync.runtime_SemacquireMutex", "sync/atomic.AddInt32", "(*internal/sync.Mutex).Unlock", "internal/race.ReleaseMerge", "(*internal/sync.Mutex).unlockSlow", "internal/sync.fatal", "internal/sync.runtime_Semrelease", "sync/atomic.StoreUint32"], unfollowed := true, recurses := true, apart := false }
def ReviveQuietSaid : Prop := reviveQuietRow.holds Tryz.pinned (OpenSpec.ofChange reviveQuietSpec)

/-- ITS FALSE NEIGHBOUR: 'it returns false'. Refute it at one input. -/
def reviveQuietWrong : ChangeSpec := { name := "reviveQuiet", fn := fun _ => fun
  | [d1, d2, d3] => { results := [.lit (.bool false)], args := [d1, d2, d3] }
  | _ => none }
def ReviveQuietWrongFalsely : Prop := reviveQuietRow.holds Tryz.pinned (OpenSpec.ofChange reviveQuietWrong)

/-- 'chancerylaw16.ReviveDead': WHATEVER THE INPUT: true; the input reads as it did. -/
def reviveDeadSpec : ChangeSpec := { name := "reviveDead", fn := fun _ => fun
  | [d] => { results := [.lit (.bool true)], args := [d] }
  | _ => none }
def reviveDeadRow : OpenClaim := { program := "ytdbkocfbhpgpkaagreat", sum := "a2a4d99739e712edc676b92d8e1a72714d4c23552b7b069de84378e2ecafc499", func := "chancery/chancerylaw16.ReviveDead", spec := "reviveDead", inPlace := ["sync/atomic.StoreInt64", "internal/bytealg.Compare", "sync/atomic.LoadInt64", "sync/atomic.AddInt64", "slices.overlaps[chancery/api.Cell]", "sync/atomic.LoadUint32", "(*internal/sync.Mutex).Lock", "internal/race.Disable", "sync/atomic.CompareAndSwapInt32", "internal/race.Enable", "internal/race.Acquire", "(*internal/sync.Mutex).lockSlow", "internal/sync.runtime_canSpin", "internal/sync.runtime_doSpin", "internal/sync.throw", "internal/sync.runtime_nanotime", "internal/sync.runtime_SemacquireMutex", "sync/atomic.AddInt32", "(*internal/sync.Mutex).Unlock", "internal/race.ReleaseMerge", "(*internal/sync.Mutex).unlockSlow", "internal/sync.fatal", "internal/sync.runtime_Semrelease", "sync/atomic.StoreUint32"], unfollowed := true, recurses := true, apart := false }
def ReviveDeadSaid : Prop := reviveDeadRow.holds Tryz.pinned (OpenSpec.ofChange reviveDeadSpec)

/-- ITS FALSE NEIGHBOUR: 'it returns false'. Refute it at one input. -/
def reviveDeadWrong : ChangeSpec := { name := "reviveDead", fn := fun _ => fun
  | [d] => { results := [.lit (.bool false)], args := [d] }
  | _ => none }
def ReviveDeadWrongFalsely : Prop := reviveDeadRow.holds Tryz.pinned (OpenSpec.ofChange reviveDeadWrong)

/-- 'chancerylaw16.ReviveTwice': WHATEVER THE INPUT: true; the input reads as it did. -/
def reviveTwiceSpec : ChangeSpec := { name := "reviveTwice", fn := fun _ => fun
  | [d] => { results := [.lit (.bool true)], args := [d] }
  | _ => none }
def reviveTwiceRow : OpenClaim := { program := "ytdbkocfbhpgpkaagreat", sum := "a2a4d99739e712edc676b92d8e1a72714d4c23552b7b069de84378e2ecafc499", func := "chancery/chancerylaw16.ReviveTwice", spec := "reviveTwice", inPlace := ["sync/atomic.StoreInt64", "internal/bytealg.Compare", "sync/atomic.LoadInt64", "sync/atomic.AddInt64", "slices.overlaps[chancery/api.Cell]", "sync/atomic.LoadUint32", "(*internal/sync.Mutex).Lock", "internal/race.Disable", "sync/atomic.CompareAndSwapInt32", "internal/race.Enable", "internal/race.Acquire", "(*internal/sync.Mutex).lockSlow", "internal/sync.runtime_canSpin", "internal/sync.runtime_doSpin", "internal/sync.throw", "internal/sync.runtime_nanotime", "internal/sync.runtime_SemacquireMutex", "sync/atomic.AddInt32", "(*internal/sync.Mutex).Unlock", "internal/race.ReleaseMerge", "(*internal/sync.Mutex).unlockSlow", "internal/sync.fatal", "internal/sync.runtime_Semrelease", "sync/atomic.StoreUint32"], unfollowed := true, recurses := true, apart := false }
def ReviveTwiceSaid : Prop := reviveTwiceRow.holds Tryz.pinned (OpenSpec.ofChange reviveTwiceSpec)

/-- ITS FALSE NEIGHBOUR: 'it returns false'. Refute it at one input. -/
def reviveTwiceWrong : ChangeSpec := { name := "reviveTwice", fn := fun _ => fun
  | [d] => { results := [.lit (.bool false)], args := [d] }
  | _ => none }
def ReviveTwiceWrongFalsely : Prop := reviveTwiceRow.holds Tryz.pinned (OpenSpec.ofChange reviveTwiceWrong)

/- THE SECOND FORM. 'bulk': how many values and letters a reading holds, each counted each time it is reached (what is shared counts as often as it is met; a slice's spare places count too). A statement '..UptoSaid' is the law's where the arguments, and the package variables that the reading takes, are together of bulk at most 1048576: NARROWER than '..Said'. Prove '..Said' where nothing that the law and all that it calls make is longer than what came in: it says more and counts as full. Else prove '..UptoSaid'. A law counts once. -/
mutual
def uptoBulk {H : Type} : DataW H → Nat
  | .lit (.string bytes) => bytes.length + 1
  | .lit _ => 1
  | .nil => 1
  | .ptr d => uptoBulk d + 1
  | .slice elems spare => uptoBulkAll elems + uptoBulkAll spare + 1
  | .agg parts => uptoBulkAll parts + 1
  | .iface _ d => uptoBulk d + 1
  | .map entries => uptoBulkEntries entries + 1
  | .held _ => 1
def uptoBulkAll {H : Type} : List (DataW H) → Nat
  | [] => 0
  | d :: r => uptoBulk d + uptoBulkAll r
def uptoBulkEntries {H : Type} : List (Lit × DataW H) → Nat
  | [] => 0
  | x :: r => uptoBulkEntry x + uptoBulkEntries r
def uptoBulkEntry {H : Type} : Lit × DataW H → Nat
  | (.string bytes, d) => bytes.length + uptoBulk d + 1
  | (_, d) => uptoBulk d + 1
 end
def uptoSmall : (H : Type) → List (DataW H) → Bool := fun _ ds => decide (uptoBulkAll ds ≤ 1048576)
def OpenSpec.upto (s : _root_.Go.ChangeSpec) : _root_.Go.OpenSpec := { _root_.Go.OpenSpec.ofChange s with cond := some uptoSmall }

/-- 'chancerylaw15.StoreSynced', WHERE WHAT IT READS IS OF BULK AT MOST 1048576: true; the input reads as it did. -/
def storeSyncedUptoRow : OpenClaim := { program := "ytdbkocfbhpgpkaagreat", sum := "a2a4d99739e712edc676b92d8e1a72714d4c23552b7b069de84378e2ecafc499", func := "chancery/chancerylaw15.StoreSynced", spec := "storeSynced", inPlace := ["sync/atomic.StoreInt64", "internal/bytealg.Compare", "sync/atomic.LoadInt64", "sync/atomic.AddInt64", "slices.overlaps[chancery/api.Cell]", "sync/atomic.LoadUint32", "(*internal/sync.Mutex).Lock", "internal/race.Disable", "sync/atomic.CompareAndSwapInt32", "internal/race.Enable", "internal/race.Acquire", "(*internal/sync.Mutex).lockSlow", "internal/sync.runtime_canSpin", "internal/sync.runtime_doSpin", "internal/sync.throw", "internal/sync.runtime_nanotime", "internal/sync.runtime_SemacquireMutex", "sync/atomic.AddInt32", "(*internal/sync.Mutex).Unlock", "internal/race.ReleaseMerge", "(*internal/sync.Mutex).unlockSlow", "internal/sync.fatal", "internal/sync.runtime_Semrelease", "sync/atomic.StoreUint32"], unfollowed := true, recurses := true, apart := false, narrowed := true }
def StoreSyncedUptoSaid : Prop := storeSyncedUptoRow.holds Tryz.pinned (OpenSpec.upto storeSyncedSpec)

/-- 'chancerylaw15.StoreBack', WHERE WHAT IT READS IS OF BULK AT MOST 1048576: true; the input reads as it did. -/
def storeBackUptoRow : OpenClaim := { program := "ytdbkocfbhpgpkaagreat", sum := "a2a4d99739e712edc676b92d8e1a72714d4c23552b7b069de84378e2ecafc499", func := "chancery/chancerylaw15.StoreBack", spec := "storeBack", inPlace := ["sync/atomic.StoreInt64", "internal/bytealg.Compare", "sync/atomic.LoadInt64", "sync/atomic.AddInt64", "slices.overlaps[chancery/api.Cell]", "sync/atomic.LoadUint32", "(*internal/sync.Mutex).Lock", "internal/race.Disable", "sync/atomic.CompareAndSwapInt32", "internal/race.Enable", "internal/race.Acquire", "(*internal/sync.Mutex).lockSlow", "internal/sync.runtime_canSpin", "internal/sync.runtime_doSpin", "internal/sync.throw", "internal/sync.runtime_nanotime", "internal/sync.runtime_SemacquireMutex", "sync/atomic.AddInt32", "(*internal/sync.Mutex).Unlock", "internal/race.ReleaseMerge", "(*internal/sync.Mutex).unlockSlow", "internal/sync.fatal", "internal/sync.runtime_Semrelease", "sync/atomic.StoreUint32"], unfollowed := true, recurses := true, apart := false, narrowed := true }
def StoreBackUptoSaid : Prop := storeBackUptoRow.holds Tryz.pinned (OpenSpec.upto storeBackSpec)

/-- 'chancerylaw15.StoreIsolated', WHERE WHAT IT READS IS OF BULK AT MOST 1048576: true; the input reads as it did. -/
def storeIsolatedUptoRow : OpenClaim := { program := "ytdbkocfbhpgpkaagreat", sum := "a2a4d99739e712edc676b92d8e1a72714d4c23552b7b069de84378e2ecafc499", func := "chancery/chancerylaw15.StoreIsolated", spec := "storeIsolated", inPlace := ["sync/atomic.StoreInt64", "internal/bytealg.Compare", "sync/atomic.LoadInt64", "sync/atomic.AddInt64", "slices.overlaps[chancery/api.Cell]", "sync/atomic.LoadUint32", "(*internal/sync.Mutex).Lock", "internal/race.Disable", "sync/atomic.CompareAndSwapInt32", "internal/race.Enable", "internal/race.Acquire", "(*internal/sync.Mutex).lockSlow", "internal/sync.runtime_canSpin", "internal/sync.runtime_doSpin", "internal/sync.throw", "internal/sync.runtime_nanotime", "internal/sync.runtime_SemacquireMutex", "sync/atomic.AddInt32", "(*internal/sync.Mutex).Unlock", "internal/race.ReleaseMerge", "(*internal/sync.Mutex).unlockSlow", "internal/sync.fatal", "internal/sync.runtime_Semrelease", "sync/atomic.StoreUint32"], unfollowed := true, recurses := true, apart := false, narrowed := true }
def StoreIsolatedUptoSaid : Prop := storeIsolatedUptoRow.holds Tryz.pinned (OpenSpec.upto storeIsolatedSpec)

/-- 'chancerylaw15.StoreCare', WHERE WHAT IT READS IS OF BULK AT MOST 1048576: true; the input reads as it did. -/
def storeCareUptoRow : OpenClaim := { program := "ytdbkocfbhpgpkaagreat", sum := "a2a4d99739e712edc676b92d8e1a72714d4c23552b7b069de84378e2ecafc499", func := "chancery/chancerylaw15.StoreCare", spec := "storeCare", inPlace := ["sync/atomic.StoreInt64", "internal/bytealg.Compare", "sync/atomic.LoadInt64", "sync/atomic.AddInt64", "slices.overlaps[chancery/api.Cell]", "sync/atomic.LoadUint32", "(*internal/sync.Mutex).Lock", "internal/race.Disable", "sync/atomic.CompareAndSwapInt32", "internal/race.Enable", "internal/race.Acquire", "(*internal/sync.Mutex).lockSlow", "internal/sync.runtime_canSpin", "internal/sync.runtime_doSpin", "internal/sync.throw", "internal/sync.runtime_nanotime", "internal/sync.runtime_SemacquireMutex", "sync/atomic.AddInt32", "(*internal/sync.Mutex).Unlock", "internal/race.ReleaseMerge", "(*internal/sync.Mutex).unlockSlow", "internal/sync.fatal", "internal/sync.runtime_Semrelease", "sync/atomic.StoreUint32"], unfollowed := true, recurses := true, apart := false, narrowed := true }
def StoreCareUptoSaid : Prop := storeCareUptoRow.holds Tryz.pinned (OpenSpec.upto storeCareSpec)

/-- 'chancerylaw15.StorePlays', WHERE WHAT IT READS IS OF BULK AT MOST 1048576: true; the input reads as it did. -/
def storePlaysUptoRow : OpenClaim := { program := "ytdbkocfbhpgpkaagreat", sum := "a2a4d99739e712edc676b92d8e1a72714d4c23552b7b069de84378e2ecafc499", func := "chancery/chancerylaw15.StorePlays", spec := "storePlays", inPlace := ["sync/atomic.StoreInt64", "internal/bytealg.Compare", "sync/atomic.LoadInt64", "sync/atomic.AddInt64", "slices.overlaps[chancery/api.Cell]", "sync/atomic.LoadUint32", "(*internal/sync.Mutex).Lock", "internal/race.Disable", "sync/atomic.CompareAndSwapInt32", "internal/race.Enable", "internal/race.Acquire", "(*internal/sync.Mutex).lockSlow", "internal/sync.runtime_canSpin", "internal/sync.runtime_doSpin", "internal/sync.throw", "internal/sync.runtime_nanotime", "internal/sync.runtime_SemacquireMutex", "sync/atomic.AddInt32", "(*internal/sync.Mutex).Unlock", "internal/race.ReleaseMerge", "(*internal/sync.Mutex).unlockSlow", "internal/sync.fatal", "internal/sync.runtime_Semrelease", "sync/atomic.StoreUint32"], unfollowed := true, recurses := true, apart := false, narrowed := true }
def StorePlaysUptoSaid : Prop := storePlaysUptoRow.holds Tryz.pinned (OpenSpec.upto storePlaysSpec)

/-- 'chancerylaw16.ReviveQuiet', WHERE WHAT IT READS IS OF BULK AT MOST 1048576: true; the input reads as it did. -/
def reviveQuietUptoRow : OpenClaim := { program := "ytdbkocfbhpgpkaagreat", sum := "a2a4d99739e712edc676b92d8e1a72714d4c23552b7b069de84378e2ecafc499", func := "chancery/chancerylaw16.ReviveQuiet", spec := "reviveQuiet", inPlace := ["sync/atomic.StoreInt64", "internal/bytealg.Compare", "sync/atomic.LoadInt64", "sync/atomic.AddInt64", "slices.overlaps[chancery/api.Cell]", "sync/atomic.LoadUint32", "(*internal/sync.Mutex).Lock", "internal/race.Disable", "sync/atomic.CompareAndSwapInt32", "internal/race.Enable", "internal/race.Acquire", "(*internal/sync.Mutex).lockSlow", "internal/sync.runtime_canSpin", "internal/sync.runtime_doSpin", "internal/sync.throw", "internal/sync.runtime_nanotime", "internal/sync.runtime_SemacquireMutex", "sync/atomic.AddInt32", "(*internal/sync.Mutex).Unlock", "internal/race.ReleaseMerge", "(*internal/sync.Mutex).unlockSlow", "internal/sync.fatal", "internal/sync.runtime_Semrelease", "sync/atomic.StoreUint32"], unfollowed := true, recurses := true, apart := false, narrowed := true }
def ReviveQuietUptoSaid : Prop := reviveQuietUptoRow.holds Tryz.pinned (OpenSpec.upto reviveQuietSpec)

/-- 'chancerylaw16.ReviveDead', WHERE WHAT IT READS IS OF BULK AT MOST 1048576: true; the input reads as it did. -/
def reviveDeadUptoRow : OpenClaim := { program := "ytdbkocfbhpgpkaagreat", sum := "a2a4d99739e712edc676b92d8e1a72714d4c23552b7b069de84378e2ecafc499", func := "chancery/chancerylaw16.ReviveDead", spec := "reviveDead", inPlace := ["sync/atomic.StoreInt64", "internal/bytealg.Compare", "sync/atomic.LoadInt64", "sync/atomic.AddInt64", "slices.overlaps[chancery/api.Cell]", "sync/atomic.LoadUint32", "(*internal/sync.Mutex).Lock", "internal/race.Disable", "sync/atomic.CompareAndSwapInt32", "internal/race.Enable", "internal/race.Acquire", "(*internal/sync.Mutex).lockSlow", "internal/sync.runtime_canSpin", "internal/sync.runtime_doSpin", "internal/sync.throw", "internal/sync.runtime_nanotime", "internal/sync.runtime_SemacquireMutex", "sync/atomic.AddInt32", "(*internal/sync.Mutex).Unlock", "internal/race.ReleaseMerge", "(*internal/sync.Mutex).unlockSlow", "internal/sync.fatal", "internal/sync.runtime_Semrelease", "sync/atomic.StoreUint32"], unfollowed := true, recurses := true, apart := false, narrowed := true }
def ReviveDeadUptoSaid : Prop := reviveDeadUptoRow.holds Tryz.pinned (OpenSpec.upto reviveDeadSpec)

/-- 'chancerylaw16.ReviveTwice', WHERE WHAT IT READS IS OF BULK AT MOST 1048576: true; the input reads as it did. -/
def reviveTwiceUptoRow : OpenClaim := { program := "ytdbkocfbhpgpkaagreat", sum := "a2a4d99739e712edc676b92d8e1a72714d4c23552b7b069de84378e2ecafc499", func := "chancery/chancerylaw16.ReviveTwice", spec := "reviveTwice", inPlace := ["sync/atomic.StoreInt64", "internal/bytealg.Compare", "sync/atomic.LoadInt64", "sync/atomic.AddInt64", "slices.overlaps[chancery/api.Cell]", "sync/atomic.LoadUint32", "(*internal/sync.Mutex).Lock", "internal/race.Disable", "sync/atomic.CompareAndSwapInt32", "internal/race.Enable", "internal/race.Acquire", "(*internal/sync.Mutex).lockSlow", "internal/sync.runtime_canSpin", "internal/sync.runtime_doSpin", "internal/sync.throw", "internal/sync.runtime_nanotime", "internal/sync.runtime_SemacquireMutex", "sync/atomic.AddInt32", "(*internal/sync.Mutex).Unlock", "internal/race.ReleaseMerge", "(*internal/sync.Mutex).unlockSlow", "internal/sync.fatal", "internal/sync.runtime_Semrelease", "sync/atomic.StoreUint32"], unfollowed := true, recurses := true, apart := false, narrowed := true }
def ReviveTwiceUptoSaid : Prop := reviveTwiceUptoRow.holds Tryz.pinned (OpenSpec.upto reviveTwiceSpec)

end Rows
end Go.Proofs.YtdbkocfbhpgpkaaGreat
