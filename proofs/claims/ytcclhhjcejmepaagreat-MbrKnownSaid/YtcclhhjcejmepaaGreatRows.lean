/-
  No cell of these rows narrows 'for every input' (looked for: loops, veiled, ifaces, maps, wideKeys, modest, calm, conditions, laid).
  DERIVED. THE GIVEN ROWS OF THIS SEAT. 8 by the template 'for every input the law returns true; each argument reads behind the call as it read before'; 0 by the template 'total and deterministic' (their statements: YtcclhhjcejmepaaGreatTotals.lean).
  GIVEN WITH THE SEED: the statements are not yours to turn. If you find one false, say at which input.
  Laid BY PROGRAM, IN A SANDBOX (cutbox-rows.mjs): the forced cells as the released guide's own fill.sh prints them over the translation dbc5354ecb707d48… (all of the seat's roots in one cut). By AI agents, Wed Nov 11 2026. No macro, syntax, notation, axiom, sorry.
-/
import Derived.Test.YtcclhhjcejmepaaGreatChecked
import GoSem.Claim
import GoSem.ClaimJoined
import GoSem.ClaimMapViews
import Derived.JoinedTies
import Derived.KernelRfl
namespace Go.Proofs.YtcclhhjcejmepaaGreat
/- THE CELL 'sum', in the pinned program and in every row, IS THE sha256 OF THE DUMP (.gsa) THAT YtcclhhjcejmepaaGreatProg.lean LOADS. Nothing in Lean hashes anything: it is a label: what it is worth is what the hold of that sum in a sandbox is worth. -/
noncomputable def Tryz.pinned : Pinned := { name := "ytcclhhjcejmepaagreat", sum := "dbc5354ecb707d48f254de8077e62a2a42e0bde1335fd2ae26d07e99171187e3", checked := Tryz.checked }
namespace Rows
def none {H : Type} : Left H := { results := [], args := [] }

/-- 'starfishlaw10.MbrEncode': WHATEVER THE INPUT: true; the input reads as it did. -/
def mbrEncodeSpec : ChangeSpec := { name := "mbrEncode", fn := fun _ => fun
  | [d1, d2, d3, d4, d5, d6, d7] => { results := [.lit (.bool true)], args := [d1, d2, d3, d4, d5, d6, d7] }
  | _ => none }
def mbrEncodeRow : OpenClaim := { program := "ytcclhhjcejmepaagreat", sum := "dbc5354ecb707d48f254de8077e62a2a42e0bde1335fd2ae26d07e99171187e3", func := "starfish/starfishlaw10.MbrEncode", spec := "mbrEncode", inPlace := ["sync/atomic.LoadUint32", "(*internal/sync.Mutex).Lock", "internal/race.Disable", "sync/atomic.CompareAndSwapInt32", "internal/race.Enable", "internal/race.Acquire", "(*internal/sync.Mutex).lockSlow", "internal/sync.runtime_canSpin", "internal/sync.runtime_doSpin", "internal/sync.throw", "internal/sync.runtime_nanotime", "internal/sync.runtime_SemacquireMutex", "sync/atomic.AddInt32", "(*internal/sync.Mutex).Unlock", "internal/race.ReleaseMerge", "(*internal/sync.Mutex).unlockSlow", "internal/sync.fatal", "internal/sync.runtime_Semrelease", "sync/atomic.StoreUint32"], unfollowed := true, recurses := true, apart := false }
def MbrEncodeSaid : Prop := mbrEncodeRow.holds Tryz.pinned (OpenSpec.ofChange mbrEncodeSpec)

/-- ITS FALSE NEIGHBOUR: 'it returns false'. Refute it at one input. -/
def mbrEncodeWrong : ChangeSpec := { name := "mbrEncode", fn := fun _ => fun
  | [d1, d2, d3, d4, d5, d6, d7] => { results := [.lit (.bool false)], args := [d1, d2, d3, d4, d5, d6, d7] }
  | _ => none }
def MbrEncodeWrongFalsely : Prop := mbrEncodeRow.holds Tryz.pinned (OpenSpec.ofChange mbrEncodeWrong)

/-- 'starfishlaw10.MbrRepair': WHATEVER THE INPUT: true; the input reads as it did. -/
def mbrRepairSpec : ChangeSpec := { name := "mbrRepair", fn := fun _ => fun
  | [d1, d2, d3, d4, d5, d6] => { results := [.lit (.bool true)], args := [d1, d2, d3, d4, d5, d6] }
  | _ => none }
def mbrRepairRow : OpenClaim := { program := "ytcclhhjcejmepaagreat", sum := "dbc5354ecb707d48f254de8077e62a2a42e0bde1335fd2ae26d07e99171187e3", func := "starfish/starfishlaw10.MbrRepair", spec := "mbrRepair", inPlace := ["sync/atomic.LoadUint32", "(*internal/sync.Mutex).Lock", "internal/race.Disable", "sync/atomic.CompareAndSwapInt32", "internal/race.Enable", "internal/race.Acquire", "(*internal/sync.Mutex).lockSlow", "internal/sync.runtime_canSpin", "internal/sync.runtime_doSpin", "internal/sync.throw", "internal/sync.runtime_nanotime", "internal/sync.runtime_SemacquireMutex", "sync/atomic.AddInt32", "(*internal/sync.Mutex).Unlock", "internal/race.ReleaseMerge", "(*internal/sync.Mutex).unlockSlow", "internal/sync.fatal", "internal/sync.runtime_Semrelease", "sync/atomic.StoreUint32"], unfollowed := true, recurses := true, apart := false }
def MbrRepairSaid : Prop := mbrRepairRow.holds Tryz.pinned (OpenSpec.ofChange mbrRepairSpec)

/-- ITS FALSE NEIGHBOUR: 'it returns false'. Refute it at one input. -/
def mbrRepairWrong : ChangeSpec := { name := "mbrRepair", fn := fun _ => fun
  | [d1, d2, d3, d4, d5, d6] => { results := [.lit (.bool false)], args := [d1, d2, d3, d4, d5, d6] }
  | _ => none }
def MbrRepairWrongFalsely : Prop := mbrRepairRow.holds Tryz.pinned (OpenSpec.ofChange mbrRepairWrong)

/-- 'starfishlaw10.MbrDecode': WHATEVER THE INPUT: true; the input reads as it did. -/
def mbrDecodeSpec : ChangeSpec := { name := "mbrDecode", fn := fun _ => fun
  | [d1, d2, d3, d4, d5] => { results := [.lit (.bool true)], args := [d1, d2, d3, d4, d5] }
  | _ => none }
def mbrDecodeRow : OpenClaim := { program := "ytcclhhjcejmepaagreat", sum := "dbc5354ecb707d48f254de8077e62a2a42e0bde1335fd2ae26d07e99171187e3", func := "starfish/starfishlaw10.MbrDecode", spec := "mbrDecode", inPlace := ["sync/atomic.LoadUint32", "(*internal/sync.Mutex).Lock", "internal/race.Disable", "sync/atomic.CompareAndSwapInt32", "internal/race.Enable", "internal/race.Acquire", "(*internal/sync.Mutex).lockSlow", "internal/sync.runtime_canSpin", "internal/sync.runtime_doSpin", "internal/sync.throw", "internal/sync.runtime_nanotime", "internal/sync.runtime_SemacquireMutex", "sync/atomic.AddInt32", "(*internal/sync.Mutex).Unlock", "internal/race.ReleaseMerge", "(*internal/sync.Mutex).unlockSlow", "internal/sync.fatal", "internal/sync.runtime_Semrelease", "sync/atomic.StoreUint32"], unfollowed := true, recurses := true, apart := false }
def MbrDecodeSaid : Prop := mbrDecodeRow.holds Tryz.pinned (OpenSpec.ofChange mbrDecodeSpec)

/-- ITS FALSE NEIGHBOUR: 'it returns false'. Refute it at one input. -/
def mbrDecodeWrong : ChangeSpec := { name := "mbrDecode", fn := fun _ => fun
  | [d1, d2, d3, d4, d5] => { results := [.lit (.bool false)], args := [d1, d2, d3, d4, d5] }
  | _ => none }
def MbrDecodeWrongFalsely : Prop := mbrDecodeRow.holds Tryz.pinned (OpenSpec.ofChange mbrDecodeWrong)

/-- 'starfishlaw10.MbrTells': WHATEVER THE INPUT: true; the input reads as it did. -/
def mbrTellsSpec : ChangeSpec := { name := "mbrTells", fn := fun _ => fun
  | [d1, d2, d3, d4, d5, d6, d7, d8, d9] => { results := [.lit (.bool true)], args := [d1, d2, d3, d4, d5, d6, d7, d8, d9] }
  | _ => none }
def mbrTellsRow : OpenClaim := { program := "ytcclhhjcejmepaagreat", sum := "dbc5354ecb707d48f254de8077e62a2a42e0bde1335fd2ae26d07e99171187e3", func := "starfish/starfishlaw10.MbrTells", spec := "mbrTells", inPlace := ["sync/atomic.LoadUint32", "(*internal/sync.Mutex).Lock", "internal/race.Disable", "sync/atomic.CompareAndSwapInt32", "internal/race.Enable", "internal/race.Acquire", "(*internal/sync.Mutex).lockSlow", "internal/sync.runtime_canSpin", "internal/sync.runtime_doSpin", "internal/sync.throw", "internal/sync.runtime_nanotime", "internal/sync.runtime_SemacquireMutex", "sync/atomic.AddInt32", "(*internal/sync.Mutex).Unlock", "internal/race.ReleaseMerge", "(*internal/sync.Mutex).unlockSlow", "internal/sync.fatal", "internal/sync.runtime_Semrelease", "sync/atomic.StoreUint32"], unfollowed := true, recurses := true, apart := false }
def MbrTellsSaid : Prop := mbrTellsRow.holds Tryz.pinned (OpenSpec.ofChange mbrTellsSpec)

/-- ITS FALSE NEIGHBOUR: 'it returns false'. Refute it at one input. -/
def mbrTellsWrong : ChangeSpec := { name := "mbrTells", fn := fun _ => fun
  | [d1, d2, d3, d4, d5, d6, d7, d8, d9] => { results := [.lit (.bool false)], args := [d1, d2, d3, d4, d5, d6, d7, d8, d9] }
  | _ => none }
def MbrTellsWrongFalsely : Prop := mbrTellsRow.holds Tryz.pinned (OpenSpec.ofChange mbrTellsWrong)

/-- 'starfishlaw10.MbrMends': WHATEVER THE INPUT: true; the input reads as it did. -/
def mbrMendsSpec : ChangeSpec := { name := "mbrMends", fn := fun _ => fun
  | [d1, d2, d3, d4, d5, d6, d7, d8, d9] => { results := [.lit (.bool true)], args := [d1, d2, d3, d4, d5, d6, d7, d8, d9] }
  | _ => none }
def mbrMendsRow : OpenClaim := { program := "ytcclhhjcejmepaagreat", sum := "dbc5354ecb707d48f254de8077e62a2a42e0bde1335fd2ae26d07e99171187e3", func := "starfish/starfishlaw10.MbrMends", spec := "mbrMends", inPlace := ["sync/atomic.LoadUint32", "(*internal/sync.Mutex).Lock", "internal/race.Disable", "sync/atomic.CompareAndSwapInt32", "internal/race.Enable", "internal/race.Acquire", "(*internal/sync.Mutex).lockSlow", "internal/sync.runtime_canSpin", "internal/sync.runtime_doSpin", "internal/sync.throw", "internal/sync.runtime_nanotime", "internal/sync.runtime_SemacquireMutex", "sync/atomic.AddInt32", "(*internal/sync.Mutex).Unlock", "internal/race.ReleaseMerge", "(*internal/sync.Mutex).unlockSlow", "internal/sync.fatal", "internal/sync.runtime_Semrelease", "sync/atomic.StoreUint32"], unfollowed := true, recurses := true, apart := false }
def MbrMendsSaid : Prop := mbrMendsRow.holds Tryz.pinned (OpenSpec.ofChange mbrMendsSpec)

/-- ITS FALSE NEIGHBOUR: 'it returns false'. Refute it at one input. -/
def mbrMendsWrong : ChangeSpec := { name := "mbrMends", fn := fun _ => fun
  | [d1, d2, d3, d4, d5, d6, d7, d8, d9] => { results := [.lit (.bool false)], args := [d1, d2, d3, d4, d5, d6, d7, d8, d9] }
  | _ => none }
def MbrMendsWrongFalsely : Prop := mbrMendsRow.holds Tryz.pinned (OpenSpec.ofChange mbrMendsWrong)

/-- 'starfishlaw10.MbrNew': WHATEVER THE INPUT: true; the input reads as it did. -/
def mbrNewSpec : ChangeSpec := { name := "mbrNew", fn := fun _ => fun
  | [d1, d2, d3] => { results := [.lit (.bool true)], args := [d1, d2, d3] }
  | _ => none }
def mbrNewRow : OpenClaim := { program := "ytcclhhjcejmepaagreat", sum := "dbc5354ecb707d48f254de8077e62a2a42e0bde1335fd2ae26d07e99171187e3", func := "starfish/starfishlaw10.MbrNew", spec := "mbrNew", inPlace := ["sync/atomic.LoadUint32", "(*internal/sync.Mutex).Lock", "internal/race.Disable", "sync/atomic.CompareAndSwapInt32", "internal/race.Enable", "internal/race.Acquire", "(*internal/sync.Mutex).lockSlow", "internal/sync.runtime_canSpin", "internal/sync.runtime_doSpin", "internal/sync.throw", "internal/sync.runtime_nanotime", "internal/sync.runtime_SemacquireMutex", "sync/atomic.AddInt32", "(*internal/sync.Mutex).Unlock", "internal/race.ReleaseMerge", "(*internal/sync.Mutex).unlockSlow", "internal/sync.fatal", "internal/sync.runtime_Semrelease", "sync/atomic.StoreUint32"], unfollowed := true, recurses := true, apart := false }
def MbrNewSaid : Prop := mbrNewRow.holds Tryz.pinned (OpenSpec.ofChange mbrNewSpec)

/-- ITS FALSE NEIGHBOUR: 'it returns false'. Refute it at one input. -/
def mbrNewWrong : ChangeSpec := { name := "mbrNew", fn := fun _ => fun
  | [d1, d2, d3] => { results := [.lit (.bool false)], args := [d1, d2, d3] }
  | _ => none }
def MbrNewWrongFalsely : Prop := mbrNewRow.holds Tryz.pinned (OpenSpec.ofChange mbrNewWrong)

/-- 'starfishlaw10.MbrAdds': WHATEVER THE INPUT: true; the input reads as it did. -/
def mbrAddsSpec : ChangeSpec := { name := "mbrAdds", fn := fun _ => fun
  | [d1, d2, d3, d4, d5] => { results := [.lit (.bool true)], args := [d1, d2, d3, d4, d5] }
  | _ => none }
def mbrAddsRow : OpenClaim := { program := "ytcclhhjcejmepaagreat", sum := "dbc5354ecb707d48f254de8077e62a2a42e0bde1335fd2ae26d07e99171187e3", func := "starfish/starfishlaw10.MbrAdds", spec := "mbrAdds", inPlace := ["sync/atomic.LoadUint32", "(*internal/sync.Mutex).Lock", "internal/race.Disable", "sync/atomic.CompareAndSwapInt32", "internal/race.Enable", "internal/race.Acquire", "(*internal/sync.Mutex).lockSlow", "internal/sync.runtime_canSpin", "internal/sync.runtime_doSpin", "internal/sync.throw", "internal/sync.runtime_nanotime", "internal/sync.runtime_SemacquireMutex", "sync/atomic.AddInt32", "(*internal/sync.Mutex).Unlock", "internal/race.ReleaseMerge", "(*internal/sync.Mutex).unlockSlow", "internal/sync.fatal", "internal/sync.runtime_Semrelease", "sync/atomic.StoreUint32"], unfollowed := true, recurses := true, apart := false }
def MbrAddsSaid : Prop := mbrAddsRow.holds Tryz.pinned (OpenSpec.ofChange mbrAddsSpec)

/-- ITS FALSE NEIGHBOUR: 'it returns false'. Refute it at one input. -/
def mbrAddsWrong : ChangeSpec := { name := "mbrAdds", fn := fun _ => fun
  | [d1, d2, d3, d4, d5] => { results := [.lit (.bool false)], args := [d1, d2, d3, d4, d5] }
  | _ => none }
def MbrAddsWrongFalsely : Prop := mbrAddsRow.holds Tryz.pinned (OpenSpec.ofChange mbrAddsWrong)

/-- 'starfishlaw10.MbrKnown': WHATEVER THE INPUT: true; the input reads as it did. -/
def mbrKnownSpec : ChangeSpec := { name := "mbrKnown", fn := fun _ => fun
  | [] => { results := [.lit (.bool true)], args := [] }
  | _ => none }
def mbrKnownRow : OpenClaim := { program := "ytcclhhjcejmepaagreat", sum := "dbc5354ecb707d48f254de8077e62a2a42e0bde1335fd2ae26d07e99171187e3", func := "starfish/starfishlaw10.MbrKnown", spec := "mbrKnown", inPlace := ["sync/atomic.LoadUint32", "(*internal/sync.Mutex).Lock", "internal/race.Disable", "sync/atomic.CompareAndSwapInt32", "internal/race.Enable", "internal/race.Acquire", "(*internal/sync.Mutex).lockSlow", "internal/sync.runtime_canSpin", "internal/sync.runtime_doSpin", "internal/sync.throw", "internal/sync.runtime_nanotime", "internal/sync.runtime_SemacquireMutex", "sync/atomic.AddInt32", "(*internal/sync.Mutex).Unlock", "internal/race.ReleaseMerge", "(*internal/sync.Mutex).unlockSlow", "internal/sync.fatal", "internal/sync.runtime_Semrelease", "sync/atomic.StoreUint32"], unfollowed := true, recurses := true, apart := false }
def MbrKnownSaid : Prop := mbrKnownRow.holds Tryz.pinned (OpenSpec.ofChange mbrKnownSpec)

/-- ITS FALSE NEIGHBOUR: 'it returns false'. Refute it at one input. -/
def mbrKnownWrong : ChangeSpec := { name := "mbrKnown", fn := fun _ => fun
  | [] => { results := [.lit (.bool false)], args := [] }
  | _ => none }
def MbrKnownWrongFalsely : Prop := mbrKnownRow.holds Tryz.pinned (OpenSpec.ofChange mbrKnownWrong)

/- THE SECOND FORM. 'bulk': how many values and letters a reading holds, each counted each time it is reached (what is shared counts as often as it is met; a slice's spare places count too). A statement '..UptoSaid' is the law's where the arguments, and the package variables that the reading takes, are together of bulk at most 1048576: NARROWER than '..Said'. Prove '..Said' where nothing that the law and all that it calls make is longer than what came in: it says more and counts as full. Else prove '..UptoSaid'. A law counts once. -/
mutual
def uptoBulk {H : Type} : DataW H → Nat
  | .lit (.string bytes) => bytes.length + 1
  | .lit _ => 1
  | .nil => 1
  | .ptr d => uptoBulk d + 1
  | .slice elems spare => uptoBulkAll elems + uptoBulkAll spare + 1
  | .agg parts => uptoBulkAll parts + 1
  | .iface _ d => uptoBulk d + 1
  | .map entries => uptoBulkEntries entries + 1
  | .held _ => 1
def uptoBulkAll {H : Type} : List (DataW H) → Nat
  | [] => 0
  | d :: r => uptoBulk d + uptoBulkAll r
def uptoBulkEntries {H : Type} : List (Lit × DataW H) → Nat
  | [] => 0
  | x :: r => uptoBulkEntry x + uptoBulkEntries r
def uptoBulkEntry {H : Type} : Lit × DataW H → Nat
  | (.string bytes, d) => bytes.length + uptoBulk d + 1
  | (_, d) => uptoBulk d + 1
 end
def uptoSmall : (H : Type) → List (DataW H) → Bool := fun _ ds => decide (uptoBulkAll ds ≤ 1048576)
def OpenSpec.upto (s : _root_.Go.ChangeSpec) : _root_.Go.OpenSpec := { _root_.Go.OpenSpec.ofChange s with cond := some uptoSmall }

/-- 'starfishlaw10.MbrEncode', WHERE WHAT IT READS IS OF BULK AT MOST 1048576: true; the input reads as it did. -/
def mbrEncodeUptoRow : OpenClaim := { program := "ytcclhhjcejmepaagreat", sum := "dbc5354ecb707d48f254de8077e62a2a42e0bde1335fd2ae26d07e99171187e3", func := "starfish/starfishlaw10.MbrEncode", spec := "mbrEncode", inPlace := ["sync/atomic.LoadUint32", "(*internal/sync.Mutex).Lock", "internal/race.Disable", "sync/atomic.CompareAndSwapInt32", "internal/race.Enable", "internal/race.Acquire", "(*internal/sync.Mutex).lockSlow", "internal/sync.runtime_canSpin", "internal/sync.runtime_doSpin", "internal/sync.throw", "internal/sync.runtime_nanotime", "internal/sync.runtime_SemacquireMutex", "sync/atomic.AddInt32", "(*internal/sync.Mutex).Unlock", "internal/race.ReleaseMerge", "(*internal/sync.Mutex).unlockSlow", "internal/sync.fatal", "internal/sync.runtime_Semrelease", "sync/atomic.StoreUint32"], unfollowed := true, recurses := true, apart := false, narrowed := true }
def MbrEncodeUptoSaid : Prop := mbrEncodeUptoRow.holds Tryz.pinned (OpenSpec.upto mbrEncodeSpec)

/-- 'starfishlaw10.MbrRepair', WHERE WHAT IT READS IS OF BULK AT MOST 1048576: true; the input reads as it did. -/
def mbrRepairUptoRow : OpenClaim := { program := "ytcclhhjcejmepaagreat", sum := "dbc5354ecb707d48f254de8077e62a2a42e0bde1335fd2ae26d07e99171187e3", func := "starfish/starfishlaw10.MbrRepair", spec := "mbrRepair", inPlace := ["sync/atomic.LoadUint32", "(*internal/sync.Mutex).Lock", "internal/race.Disable", "sync/atomic.CompareAndSwapInt32", "internal/race.Enable", "internal/race.Acquire", "(*internal/sync.Mutex).lockSlow", "internal/sync.runtime_canSpin", "internal/sync.runtime_doSpin", "internal/sync.throw", "internal/sync.runtime_nanotime", "internal/sync.runtime_SemacquireMutex", "sync/atomic.AddInt32", "(*internal/sync.Mutex).Unlock", "internal/race.ReleaseMerge", "(*internal/sync.Mutex).unlockSlow", "internal/sync.fatal", "internal/sync.runtime_Semrelease", "sync/atomic.StoreUint32"], unfollowed := true, recurses := true, apart := false, narrowed := true }
def MbrRepairUptoSaid : Prop := mbrRepairUptoRow.holds Tryz.pinned (OpenSpec.upto mbrRepairSpec)

/-- 'starfishlaw10.MbrDecode', WHERE WHAT IT READS IS OF BULK AT MOST 1048576: true; the input reads as it did. -/
def mbrDecodeUptoRow : OpenClaim := { program := "ytcclhhjcejmepaagreat", sum := "dbc5354ecb707d48f254de8077e62a2a42e0bde1335fd2ae26d07e99171187e3", func := "starfish/starfishlaw10.MbrDecode", spec := "mbrDecode", inPlace := ["sync/atomic.LoadUint32", "(*internal/sync.Mutex).Lock", "internal/race.Disable", "sync/atomic.CompareAndSwapInt32", "internal/race.Enable", "internal/race.Acquire", "(*internal/sync.Mutex).lockSlow", "internal/sync.runtime_canSpin", "internal/sync.runtime_doSpin", "internal/sync.throw", "internal/sync.runtime_nanotime", "internal/sync.runtime_SemacquireMutex", "sync/atomic.AddInt32", "(*internal/sync.Mutex).Unlock", "internal/race.ReleaseMerge", "(*internal/sync.Mutex).unlockSlow", "internal/sync.fatal", "internal/sync.runtime_Semrelease", "sync/atomic.StoreUint32"], unfollowed := true, recurses := true, apart := false, narrowed := true }
def MbrDecodeUptoSaid : Prop := mbrDecodeUptoRow.holds Tryz.pinned (OpenSpec.upto mbrDecodeSpec)

/-- 'starfishlaw10.MbrTells', WHERE WHAT IT READS IS OF BULK AT MOST 1048576: true; the input reads as it did. -/
def mbrTellsUptoRow : OpenClaim := { program := "ytcclhhjcejmepaagreat", sum := "dbc5354ecb707d48f254de8077e62a2a42e0bde1335fd2ae26d07e99171187e3", func := "starfish/starfishlaw10.MbrTells", spec := "mbrTells", inPlace := ["sync/atomic.LoadUint32", "(*internal/sync.Mutex).Lock", "internal/race.Disable", "sync/atomic.CompareAndSwapInt32", "internal/race.Enable", "internal/race.Acquire", "(*internal/sync.Mutex).lockSlow", "internal/sync.runtime_canSpin", "internal/sync.runtime_doSpin", "internal/sync.throw", "internal/sync.runtime_nanotime", "internal/sync.runtime_SemacquireMutex", "sync/atomic.AddInt32", "(*internal/sync.Mutex).Unlock", "internal/race.ReleaseMerge", "(*internal/sync.Mutex).unlockSlow", "internal/sync.fatal", "internal/sync.runtime_Semrelease", "sync/atomic.StoreUint32"], unfollowed := true, recurses := true, apart := false, narrowed := true }
def MbrTellsUptoSaid : Prop := mbrTellsUptoRow.holds Tryz.pinned (OpenSpec.upto mbrTellsSpec)

/-- 'starfishlaw10.MbrMends', WHERE WHAT IT READS IS OF BULK AT MOST 1048576: true; the input reads as it did. -/
def mbrMendsUptoRow : OpenClaim := { program := "ytcclhhjcejmepaagreat", sum := "dbc5354ecb707d48f254de8077e62a2a42e0bde1335fd2ae26d07e99171187e3", func := "starfish/starfishlaw10.MbrMends", spec := "mbrMends", inPlace := ["sync/atomic.LoadUint32", "(*internal/sync.Mutex).Lock", "internal/race.Disable", "sync/atomic.CompareAndSwapInt32", "internal/race.Enable", "internal/race.Acquire", "(*internal/sync.Mutex).lockSlow", "internal/sync.runtime_canSpin", "internal/sync.runtime_doSpin", "internal/sync.throw", "internal/sync.runtime_nanotime", "internal/sync.runtime_SemacquireMutex", "sync/atomic.AddInt32", "(*internal/sync.Mutex).Unlock", "internal/race.ReleaseMerge", "(*internal/sync.Mutex).unlockSlow", "internal/sync.fatal", "internal/sync.runtime_Semrelease", "sync/atomic.StoreUint32"], unfollowed := true, recurses := true, apart := false, narrowed := true }
def MbrMendsUptoSaid : Prop := mbrMendsUptoRow.holds Tryz.pinned (OpenSpec.upto mbrMendsSpec)

/-- 'starfishlaw10.MbrNew', WHERE WHAT IT READS IS OF BULK AT MOST 1048576: true; the input reads as it did. -/
def mbrNewUptoRow : OpenClaim := { program := "ytcclhhjcejmepaagreat", sum := "dbc5354ecb707d48f254de8077e62a2a42e0bde1335fd2ae26d07e99171187e3", func := "starfish/starfishlaw10.MbrNew", spec := "mbrNew", inPlace := ["sync/atomic.LoadUint32", "(*internal/sync.Mutex).Lock", "internal/race.Disable", "sync/atomic.CompareAndSwapInt32", "internal/race.Enable", "internal/race.Acquire", "(*internal/sync.Mutex).lockSlow", "internal/sync.runtime_canSpin", "internal/sync.runtime_doSpin", "internal/sync.throw", "internal/sync.runtime_nanotime", "internal/sync.runtime_SemacquireMutex", "sync/atomic.AddInt32", "(*internal/sync.Mutex).Unlock", "internal/race.ReleaseMerge", "(*internal/sync.Mutex).unlockSlow", "internal/sync.fatal", "internal/sync.runtime_Semrelease", "sync/atomic.StoreUint32"], unfollowed := true, recurses := true, apart := false, narrowed := true }
def MbrNewUptoSaid : Prop := mbrNewUptoRow.holds Tryz.pinned (OpenSpec.upto mbrNewSpec)

/-- 'starfishlaw10.MbrAdds', WHERE WHAT IT READS IS OF BULK AT MOST 1048576: true; the input reads as it did. -/
def mbrAddsUptoRow : OpenClaim := { program := "ytcclhhjcejmepaagreat", sum := "dbc5354ecb707d48f254de8077e62a2a42e0bde1335fd2ae26d07e99171187e3", func := "starfish/starfishlaw10.MbrAdds", spec := "mbrAdds", inPlace := ["sync/atomic.LoadUint32", "(*internal/sync.Mutex).Lock", "internal/race.Disable", "sync/atomic.CompareAndSwapInt32", "internal/race.Enable", "internal/race.Acquire", "(*internal/sync.Mutex).lockSlow", "internal/sync.runtime_canSpin", "internal/sync.runtime_doSpin", "internal/sync.throw", "internal/sync.runtime_nanotime", "internal/sync.runtime_SemacquireMutex", "sync/atomic.AddInt32", "(*internal/sync.Mutex).Unlock", "internal/race.ReleaseMerge", "(*internal/sync.Mutex).unlockSlow", "internal/sync.fatal", "internal/sync.runtime_Semrelease", "sync/atomic.StoreUint32"], unfollowed := true, recurses := true, apart := false, narrowed := true }
def MbrAddsUptoSaid : Prop := mbrAddsUptoRow.holds Tryz.pinned (OpenSpec.upto mbrAddsSpec)

/-- 'starfishlaw10.MbrKnown', WHERE WHAT IT READS IS OF BULK AT MOST 1048576: true; the input reads as it did. -/
def mbrKnownUptoRow : OpenClaim := { program := "ytcclhhjcejmepaagreat", sum := "dbc5354ecb707d48f254de8077e62a2a42e0bde1335fd2ae26d07e99171187e3", func := "starfish/starfishlaw10.MbrKnown", spec := "mbrKnown", inPlace := ["sync/atomic.LoadUint32", "(*internal/sync.Mutex).Lock", "internal/race.Disable", "sync/atomic.CompareAndSwapInt32", "internal/race.Enable", "internal/race.Acquire", "(*internal/sync.Mutex).lockSlow", "internal/sync.runtime_canSpin", "internal/sync.runtime_doSpin", "internal/sync.throw", "internal/sync.runtime_nanotime", "internal/sync.runtime_SemacquireMutex", "sync/atomic.AddInt32", "(*internal/sync.Mutex).Unlock", "internal/race.ReleaseMerge", "(*internal/sync.Mutex).unlockSlow", "internal/sync.fatal", "internal/sync.runtime_Semrelease", "sync/atomic.StoreUint32"], unfollowed := true, recurses := true, apart := false, narrowed := true }
def MbrKnownUptoSaid : Prop := mbrKnownUptoRow.holds Tryz.pinned (OpenSpec.upto mbrKnownSpec)

end Rows
end Go.Proofs.YtcclhhjcejmepaaGreat
