/-
  No cell of these rows narrows 'for every input' (looked for: loops, veiled, ifaces, maps, wideKeys, modest, calm, conditions, laid).
  DERIVED. THE GIVEN ROWS OF THIS SEAT. 6 by the template 'for every input the law returns true; each argument reads behind the call as it read before'; 0 by the template 'total and deterministic' (their statements: YtjdnicacnaokdaaGreatTotals.lean).
  GIVEN WITH THE SEED: the statements are not yours to turn. If you find one false, say at which input.
  Laid BY PROGRAM, IN A SANDBOX (cutbox-rows.mjs): the forced cells as the released guide's own fill.sh prints them over the translation b67d24cacfe7b94e… (all of the seat's roots in one cut). By AI agents, Wed Nov 11 2026. No macro, syntax, notation, axiom, sorry.
-/
import Derived.Test.YtjdnicacnaokdaaGreatChecked
import GoSem.Claim
import GoSem.ClaimJoined
import GoSem.ClaimMapViews
import Derived.JoinedTies
import Derived.KernelRfl
namespace Go.Proofs.YtjdnicacnaokdaaGreat
/- THE CELL 'sum', in the pinned program and in every row, IS THE sha256 OF THE DUMP (.gsa) THAT YtjdnicacnaokdaaGreatProg.lean LOADS. Nothing in Lean hashes anything: it is a label: what it is worth is what the hold of that sum in a sandbox is worth. -/
noncomputable def Tryz.pinned : Pinned := { name := "ytjdnicacnaokdaagreat", sum := "b67d24cacfe7b94eb077af5ddd33f12947a21d9b15db80d4d56485c01ebdfdf3", checked := Tryz.checked }
namespace Rows
def none {H : Type} : Left H := { results := [], args := [] }

/-- 'starfishlaw11.TransferNew': WHATEVER THE INPUT: true; the input reads as it did. -/
def transferNewSpec : ChangeSpec := { name := "transferNew", fn := fun _ => fun
  | [d1, d2] => { results := [.lit (.bool true)], args := [d1, d2] }
  | _ => none }
def transferNewRow : OpenClaim := { program := "ytjdnicacnaokdaagreat", sum := "b67d24cacfe7b94eb077af5ddd33f12947a21d9b15db80d4d56485c01ebdfdf3", func := "starfish/starfishlaw11.TransferNew", spec := "transferNew", inPlace := ["sync/atomic.LoadUint32", "(*internal/sync.Mutex).Lock", "internal/race.Disable", "sync/atomic.CompareAndSwapInt32", "internal/race.Enable", "internal/race.Acquire", "(*internal/sync.Mutex).lockSlow", "internal/sync.runtime_canSpin", "internal/sync.runtime_doSpin", "internal/sync.throw", "internal/sync.runtime_nanotime", "internal/sync.runtime_SemacquireMutex", "sync/atomic.AddInt32", "(*internal/sync.Mutex).Unlock", "internal/race.ReleaseMerge", "(*internal/sync.Mutex).unlockSlow", "internal/sync.fatal", "internal/sync.runtime_Semrelease", "sync/atomic.StoreUint32"], unfollowed := true, recurses := true, plainKeys := false, apart := false }
def TransferNewSaid : Prop := transferNewRow.holds Tryz.pinned (OpenSpec.ofChange transferNewSpec)

/-- ITS FALSE NEIGHBOUR: 'it returns false'. Refute it at one input. -/
def transferNewWrong : ChangeSpec := { name := "transferNew", fn := fun _ => fun
  | [d1, d2] => { results := [.lit (.bool false)], args := [d1, d2] }
  | _ => none }
def TransferNewWrongFalsely : Prop := transferNewRow.holds Tryz.pinned (OpenSpec.ofChange transferNewWrong)

/-- 'starfishlaw11.TransferEncode': WHATEVER THE INPUT: true; the input reads as it did. -/
def transferEncodeSpec : ChangeSpec := { name := "transferEncode", fn := fun _ => fun
  | [d1, d2, d3, d4, d5, d6] => { results := [.lit (.bool true)], args := [d1, d2, d3, d4, d5, d6] }
  | _ => none }
def transferEncodeRow : OpenClaim := { program := "ytjdnicacnaokdaagreat", sum := "b67d24cacfe7b94eb077af5ddd33f12947a21d9b15db80d4d56485c01ebdfdf3", func := "starfish/starfishlaw11.TransferEncode", spec := "transferEncode", inPlace := ["sync/atomic.LoadUint32", "(*internal/sync.Mutex).Lock", "internal/race.Disable", "sync/atomic.CompareAndSwapInt32", "internal/race.Enable", "internal/race.Acquire", "(*internal/sync.Mutex).lockSlow", "internal/sync.runtime_canSpin", "internal/sync.runtime_doSpin", "internal/sync.throw", "internal/sync.runtime_nanotime", "internal/sync.runtime_SemacquireMutex", "sync/atomic.AddInt32", "(*internal/sync.Mutex).Unlock", "internal/race.ReleaseMerge", "(*internal/sync.Mutex).unlockSlow", "internal/sync.fatal", "internal/sync.runtime_Semrelease", "sync/atomic.StoreUint32"], unfollowed := true, recurses := true, plainKeys := false, apart := false }
def TransferEncodeSaid : Prop := transferEncodeRow.holds Tryz.pinned (OpenSpec.ofChange transferEncodeSpec)

/-- ITS FALSE NEIGHBOUR: 'it returns false'. Refute it at one input. -/
def transferEncodeWrong : ChangeSpec := { name := "transferEncode", fn := fun _ => fun
  | [d1, d2, d3, d4, d5, d6] => { results := [.lit (.bool false)], args := [d1, d2, d3, d4, d5, d6] }
  | _ => none }
def TransferEncodeWrongFalsely : Prop := transferEncodeRow.holds Tryz.pinned (OpenSpec.ofChange transferEncodeWrong)

/-- 'starfishlaw11.TransferTold': WHATEVER THE INPUT: true; the input reads as it did. -/
def transferToldSpec : ChangeSpec := { name := "transferTold", fn := fun _ => fun
  | [d1, d2, d3, d4, d5] => { results := [.lit (.bool true)], args := [d1, d2, d3, d4, d5] }
  | _ => none }
def transferToldRow : OpenClaim := { program := "ytjdnicacnaokdaagreat", sum := "b67d24cacfe7b94eb077af5ddd33f12947a21d9b15db80d4d56485c01ebdfdf3", func := "starfish/starfishlaw11.TransferTold", spec := "transferTold", inPlace := ["sync/atomic.LoadUint32", "(*internal/sync.Mutex).Lock", "internal/race.Disable", "sync/atomic.CompareAndSwapInt32", "internal/race.Enable", "internal/race.Acquire", "(*internal/sync.Mutex).lockSlow", "internal/sync.runtime_canSpin", "internal/sync.runtime_doSpin", "internal/sync.throw", "internal/sync.runtime_nanotime", "internal/sync.runtime_SemacquireMutex", "sync/atomic.AddInt32", "(*internal/sync.Mutex).Unlock", "internal/race.ReleaseMerge", "(*internal/sync.Mutex).unlockSlow", "internal/sync.fatal", "internal/sync.runtime_Semrelease", "sync/atomic.StoreUint32"], unfollowed := true, recurses := true, plainKeys := false, apart := false }
def TransferToldSaid : Prop := transferToldRow.holds Tryz.pinned (OpenSpec.ofChange transferToldSpec)

/-- ITS FALSE NEIGHBOUR: 'it returns false'. Refute it at one input. -/
def transferToldWrong : ChangeSpec := { name := "transferTold", fn := fun _ => fun
  | [d1, d2, d3, d4, d5] => { results := [.lit (.bool false)], args := [d1, d2, d3, d4, d5] }
  | _ => none }
def TransferToldWrongFalsely : Prop := transferToldRow.holds Tryz.pinned (OpenSpec.ofChange transferToldWrong)

/-- 'starfishlaw11.TransferTells': WHATEVER THE INPUT: true; the input reads as it did. -/
def transferTellsSpec : ChangeSpec := { name := "transferTells", fn := fun _ => fun
  | [d1, d2, d3, d4, d5, d6, d7] => { results := [.lit (.bool true)], args := [d1, d2, d3, d4, d5, d6, d7] }
  | _ => none }
def transferTellsRow : OpenClaim := { program := "ytjdnicacnaokdaagreat", sum := "b67d24cacfe7b94eb077af5ddd33f12947a21d9b15db80d4d56485c01ebdfdf3", func := "starfish/starfishlaw11.TransferTells", spec := "transferTells", inPlace := ["sync/atomic.LoadUint32", "(*internal/sync.Mutex).Lock", "internal/race.Disable", "sync/atomic.CompareAndSwapInt32", "internal/race.Enable", "internal/race.Acquire", "(*internal/sync.Mutex).lockSlow", "internal/sync.runtime_canSpin", "internal/sync.runtime_doSpin", "internal/sync.throw", "internal/sync.runtime_nanotime", "internal/sync.runtime_SemacquireMutex", "sync/atomic.AddInt32", "(*internal/sync.Mutex).Unlock", "internal/race.ReleaseMerge", "(*internal/sync.Mutex).unlockSlow", "internal/sync.fatal", "internal/sync.runtime_Semrelease", "sync/atomic.StoreUint32"], unfollowed := true, recurses := true, plainKeys := false, apart := false }
def TransferTellsSaid : Prop := transferTellsRow.holds Tryz.pinned (OpenSpec.ofChange transferTellsSpec)

/-- ITS FALSE NEIGHBOUR: 'it returns false'. Refute it at one input. -/
def transferTellsWrong : ChangeSpec := { name := "transferTells", fn := fun _ => fun
  | [d1, d2, d3, d4, d5, d6, d7] => { results := [.lit (.bool false)], args := [d1, d2, d3, d4, d5, d6, d7] }
  | _ => none }
def TransferTellsWrongFalsely : Prop := transferTellsRow.holds Tryz.pinned (OpenSpec.ofChange transferTellsWrong)

/-- 'starfishlaw11.TransferMends': WHATEVER THE INPUT: true; the input reads as it did. -/
def transferMendsSpec : ChangeSpec := { name := "transferMends", fn := fun _ => fun
  | [d1, d2, d3, d4, d5] => { results := [.lit (.bool true)], args := [d1, d2, d3, d4, d5] }
  | _ => none }
def transferMendsRow : OpenClaim := { program := "ytjdnicacnaokdaagreat", sum := "b67d24cacfe7b94eb077af5ddd33f12947a21d9b15db80d4d56485c01ebdfdf3", func := "starfish/starfishlaw11.TransferMends", spec := "transferMends", inPlace := ["sync/atomic.LoadUint32", "(*internal/sync.Mutex).Lock", "internal/race.Disable", "sync/atomic.CompareAndSwapInt32", "internal/race.Enable", "internal/race.Acquire", "(*internal/sync.Mutex).lockSlow", "internal/sync.runtime_canSpin", "internal/sync.runtime_doSpin", "internal/sync.throw", "internal/sync.runtime_nanotime", "internal/sync.runtime_SemacquireMutex", "sync/atomic.AddInt32", "(*internal/sync.Mutex).Unlock", "internal/race.ReleaseMerge", "(*internal/sync.Mutex).unlockSlow", "internal/sync.fatal", "internal/sync.runtime_Semrelease", "sync/atomic.StoreUint32"], unfollowed := true, recurses := true, plainKeys := false, apart := false }
def TransferMendsSaid : Prop := transferMendsRow.holds Tryz.pinned (OpenSpec.ofChange transferMendsSpec)

/-- ITS FALSE NEIGHBOUR: 'it returns false'. Refute it at one input. -/
def transferMendsWrong : ChangeSpec := { name := "transferMends", fn := fun _ => fun
  | [d1, d2, d3, d4, d5] => { results := [.lit (.bool false)], args := [d1, d2, d3, d4, d5] }
  | _ => none }
def TransferMendsWrongFalsely : Prop := transferMendsRow.holds Tryz.pinned (OpenSpec.ofChange transferMendsWrong)

/-- 'starfishlaw11.TransferKnown': WHATEVER THE INPUT: true; the input reads as it did. -/
def transferKnownSpec : ChangeSpec := { name := "transferKnown", fn := fun _ => fun
  | [] => { results := [.lit (.bool true)], args := [] }
  | _ => none }
def transferKnownRow : OpenClaim := { program := "ytjdnicacnaokdaagreat", sum := "b67d24cacfe7b94eb077af5ddd33f12947a21d9b15db80d4d56485c01ebdfdf3", func := "starfish/starfishlaw11.TransferKnown", spec := "transferKnown", inPlace := ["sync/atomic.LoadUint32", "(*internal/sync.Mutex).Lock", "internal/race.Disable", "sync/atomic.CompareAndSwapInt32", "internal/race.Enable", "internal/race.Acquire", "(*internal/sync.Mutex).lockSlow", "internal/sync.runtime_canSpin", "internal/sync.runtime_doSpin", "internal/sync.throw", "internal/sync.runtime_nanotime", "internal/sync.runtime_SemacquireMutex", "sync/atomic.AddInt32", "(*internal/sync.Mutex).Unlock", "internal/race.ReleaseMerge", "(*internal/sync.Mutex).unlockSlow", "internal/sync.fatal", "internal/sync.runtime_Semrelease", "sync/atomic.StoreUint32"], unfollowed := true, recurses := true, plainKeys := false, apart := false }
def TransferKnownSaid : Prop := transferKnownRow.holds Tryz.pinned (OpenSpec.ofChange transferKnownSpec)

/-- ITS FALSE NEIGHBOUR: 'it returns false'. Refute it at one input. -/
def transferKnownWrong : ChangeSpec := { name := "transferKnown", fn := fun _ => fun
  | [] => { results := [.lit (.bool false)], args := [] }
  | _ => none }
def TransferKnownWrongFalsely : Prop := transferKnownRow.holds Tryz.pinned (OpenSpec.ofChange transferKnownWrong)

/- THE SECOND FORM. 'bulk': how many values and letters a reading holds, each counted each time it is reached (what is shared counts as often as it is met; a slice's spare places count too). A statement '..UptoSaid' is the law's where the arguments, and the package variables that the reading takes, are together of bulk at most 1048576: NARROWER than '..Said'. Prove '..Said' where nothing that the law and all that it calls make is longer than what came in: it says more and counts as full. Else prove '..UptoSaid'. A law counts once. -/
mutual
def uptoBulk {H : Type} : DataW H → Nat
  | .lit (.string bytes) => bytes.length + 1
  | .lit _ => 1
  | .nil => 1
  | .ptr d => uptoBulk d + 1
  | .slice elems spare => uptoBulkAll elems + uptoBulkAll spare + 1
  | .agg parts => uptoBulkAll parts + 1
  | .iface _ d => uptoBulk d + 1
  | .map entries => uptoBulkEntries entries + 1
  | .held _ => 1
def uptoBulkAll {H : Type} : List (DataW H) → Nat
  | [] => 0
  | d :: r => uptoBulk d + uptoBulkAll r
def uptoBulkEntries {H : Type} : List (Lit × DataW H) → Nat
  | [] => 0
  | x :: r => uptoBulkEntry x + uptoBulkEntries r
def uptoBulkEntry {H : Type} : Lit × DataW H → Nat
  | (.string bytes, d) => bytes.length + uptoBulk d + 1
  | (_, d) => uptoBulk d + 1
 end
def uptoSmall : (H : Type) → List (DataW H) → Bool := fun _ ds => decide (uptoBulkAll ds ≤ 1048576)
def OpenSpec.upto (s : _root_.Go.ChangeSpec) : _root_.Go.OpenSpec := { _root_.Go.OpenSpec.ofChange s with cond := some uptoSmall }

/-- 'starfishlaw11.TransferNew', WHERE WHAT IT READS IS OF BULK AT MOST 1048576: true; the input reads as it did. -/
def transferNewUptoRow : OpenClaim := { program := "ytjdnicacnaokdaagreat", sum := "b67d24cacfe7b94eb077af5ddd33f12947a21d9b15db80d4d56485c01ebdfdf3", func := "starfish/starfishlaw11.TransferNew", spec := "transferNew", inPlace := ["sync/atomic.LoadUint32", "(*internal/sync.Mutex).Lock", "internal/race.Disable", "sync/atomic.CompareAndSwapInt32", "internal/race.Enable", "internal/race.Acquire", "(*internal/sync.Mutex).lockSlow", "internal/sync.runtime_canSpin", "internal/sync.runtime_doSpin", "internal/sync.throw", "internal/sync.runtime_nanotime", "internal/sync.runtime_SemacquireMutex", "sync/atomic.AddInt32", "(*internal/sync.Mutex).Unlock", "internal/race.ReleaseMerge", "(*internal/sync.Mutex).unlockSlow", "internal/sync.fatal", "internal/sync.runtime_Semrelease", "sync/atomic.StoreUint32"], unfollowed := true, recurses := true, plainKeys := false, apart := false, narrowed := true }
def TransferNewUptoSaid : Prop := transferNewUptoRow.holds Tryz.pinned (OpenSpec.upto transferNewSpec)

/-- 'starfishlaw11.TransferEncode', WHERE WHAT IT READS IS OF BULK AT MOST 1048576: true; the input reads as it did. -/
def transferEncodeUptoRow : OpenClaim := { program := "ytjdnicacnaokdaagreat", sum := "b67d24cacfe7b94eb077af5ddd33f12947a21d9b15db80d4d56485c01ebdfdf3", func := "starfish/starfishlaw11.TransferEncode", spec := "transferEncode", inPlace := ["sync/atomic.LoadUint32", "(*internal/sync.Mutex).Lock", "internal/race.Disable", "sync/atomic.CompareAndSwapInt32", "internal/race.Enable", "internal/race.Acquire", "(*internal/sync.Mutex).lockSlow", "internal/sync.runtime_canSpin", "internal/sync.runtime_doSpin", "internal/sync.throw", "internal/sync.runtime_nanotime", "internal/sync.runtime_SemacquireMutex", "sync/atomic.AddInt32", "(*internal/sync.Mutex).Unlock", "internal/race.ReleaseMerge", "(*internal/sync.Mutex).unlockSlow", "internal/sync.fatal", "internal/sync.runtime_Semrelease", "sync/atomic.StoreUint32"], unfollowed := true, recurses := true, plainKeys := false, apart := false, narrowed := true }
def TransferEncodeUptoSaid : Prop := transferEncodeUptoRow.holds Tryz.pinned (OpenSpec.upto transferEncodeSpec)

/-- 'starfishlaw11.TransferTold', WHERE WHAT IT READS IS OF BULK AT MOST 1048576: true; the input reads as it did. -/
def transferToldUptoRow : OpenClaim := { program := "ytjdnicacnaokdaagreat", sum := "b67d24cacfe7b94eb077af5ddd33f12947a21d9b15db80d4d56485c01ebdfdf3", func := "starfish/starfishlaw11.TransferTold", spec := "transferTold", inPlace := ["sync/atomic.LoadUint32", "(*internal/sync.Mutex).Lock", "internal/race.Disable", "sync/atomic.CompareAndSwapInt32", "internal/race.Enable", "internal/race.Acquire", "(*internal/sync.Mutex).lockSlow", "internal/sync.runtime_canSpin", "internal/sync.runtime_doSpin", "internal/sync.throw", "internal/sync.runtime_nanotime", "internal/sync.runtime_SemacquireMutex", "sync/atomic.AddInt32", "(*internal/sync.Mutex).Unlock", "internal/race.ReleaseMerge", "(*internal/sync.Mutex).unlockSlow", "internal/sync.fatal", "internal/sync.runtime_Semrelease", "sync/atomic.StoreUint32"], unfollowed := true, recurses := true, plainKeys := false, apart := false, narrowed := true }
def TransferToldUptoSaid : Prop := transferToldUptoRow.holds Tryz.pinned (OpenSpec.upto transferToldSpec)

/-- 'starfishlaw11.TransferTells', WHERE WHAT IT READS IS OF BULK AT MOST 1048576: true; the input reads as it did. -/
def transferTellsUptoRow : OpenClaim := { program := "ytjdnicacnaokdaagreat", sum := "b67d24cacfe7b94eb077af5ddd33f12947a21d9b15db80d4d56485c01ebdfdf3", func := "starfish/starfishlaw11.TransferTells", spec := "transferTells", inPlace := ["sync/atomic.LoadUint32", "(*internal/sync.Mutex).Lock", "internal/race.Disable", "sync/atomic.CompareAndSwapInt32", "internal/race.Enable", "internal/race.Acquire", "(*internal/sync.Mutex).lockSlow", "internal/sync.runtime_canSpin", "internal/sync.runtime_doSpin", "internal/sync.throw", "internal/sync.runtime_nanotime", "internal/sync.runtime_SemacquireMutex", "sync/atomic.AddInt32", "(*internal/sync.Mutex).Unlock", "internal/race.ReleaseMerge", "(*internal/sync.Mutex).unlockSlow", "internal/sync.fatal", "internal/sync.runtime_Semrelease", "sync/atomic.StoreUint32"], unfollowed := true, recurses := true, plainKeys := false, apart := false, narrowed := true }
def TransferTellsUptoSaid : Prop := transferTellsUptoRow.holds Tryz.pinned (OpenSpec.upto transferTellsSpec)

/-- 'starfishlaw11.TransferMends', WHERE WHAT IT READS IS OF BULK AT MOST 1048576: true; the input reads as it did. -/
def transferMendsUptoRow : OpenClaim := { program := "ytjdnicacnaokdaagreat", sum := "b67d24cacfe7b94eb077af5ddd33f12947a21d9b15db80d4d56485c01ebdfdf3", func := "starfish/starfishlaw11.TransferMends", spec := "transferMends", inPlace := ["sync/atomic.LoadUint32", "(*internal/sync.Mutex).Lock", "internal/race.Disable", "sync/atomic.CompareAndSwapInt32", "internal/race.Enable", "internal/race.Acquire", "(*internal/sync.Mutex).lockSlow", "internal/sync.runtime_canSpin", "internal/sync.runtime_doSpin", "internal/sync.throw", "internal/sync.runtime_nanotime", "internal/sync.runtime_SemacquireMutex", "sync/atomic.AddInt32", "(*internal/sync.Mutex).Unlock", "internal/race.ReleaseMerge", "(*internal/sync.Mutex).unlockSlow", "internal/sync.fatal", "internal/sync.runtime_Semrelease", "sync/atomic.StoreUint32"], unfollowed := true, recurses := true, plainKeys := false, apart := false, narrowed := true }
def TransferMendsUptoSaid : Prop := transferMendsUptoRow.holds Tryz.pinned (OpenSpec.upto transferMendsSpec)

/-- 'starfishlaw11.TransferKnown', WHERE WHAT IT READS IS OF BULK AT MOST 1048576: true; the input reads as it did. -/
def transferKnownUptoRow : OpenClaim := { program := "ytjdnicacnaokdaagreat", sum := "b67d24cacfe7b94eb077af5ddd33f12947a21d9b15db80d4d56485c01ebdfdf3", func := "starfish/starfishlaw11.TransferKnown", spec := "transferKnown", inPlace := ["sync/atomic.LoadUint32", "(*internal/sync.Mutex).Lock", "internal/race.Disable", "sync/atomic.CompareAndSwapInt32", "internal/race.Enable", "internal/race.Acquire", "(*internal/sync.Mutex).lockSlow", "internal/sync.runtime_canSpin", "internal/sync.runtime_doSpin", "internal/sync.throw", "internal/sync.runtime_nanotime", "internal/sync.runtime_SemacquireMutex", "sync/atomic.AddInt32", "(*internal/sync.Mutex).Unlock", "internal/race.ReleaseMerge", "(*internal/sync.Mutex).unlockSlow", "internal/sync.fatal", "internal/sync.runtime_Semrelease", "sync/atomic.StoreUint32"], unfollowed := true, recurses := true, plainKeys := false, apart := false, narrowed := true }
def TransferKnownUptoSaid : Prop := transferKnownUptoRow.holds Tryz.pinned (OpenSpec.upto transferKnownSpec)

end Rows
end Go.Proofs.YtjdnicacnaokdaaGreat
