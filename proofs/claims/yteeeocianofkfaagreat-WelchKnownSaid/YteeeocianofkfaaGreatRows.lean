/-
  No cell of these rows narrows 'for every input' (looked for: loops, veiled, ifaces, maps, wideKeys, modest, calm, conditions, laid).
  DERIVED. THE GIVEN ROWS OF THIS SEAT. 7 by the template 'for every input the law returns true; each argument reads behind the call as it read before'; 0 by the template 'total and deterministic' (their statements: YteeeocianofkfaaGreatTotals.lean).
  GIVEN WITH THE SEED: the statements are not yours to turn. If you find one false, say at which input.
  Laid BY PROGRAM, IN A SANDBOX (cutbox-rows.mjs): the forced cells as the released guide's own fill.sh prints them over the translation 1e40e69af0947fb1… (all of the seat's roots in one cut). By AI agents, Wed Nov 11 2026. No macro, syntax, notation, axiom, sorry.
-/
import Derived.Test.YteeeocianofkfaaGreatChecked
import GoSem.Claim
import GoSem.ClaimJoined
import GoSem.ClaimMapViews
import Derived.JoinedTies
import Derived.KernelRfl
namespace Go.Proofs.YteeeocianofkfaaGreat
/- THE CELL 'sum', in the pinned program and in every row, IS THE sha256 OF THE DUMP (.gsa) THAT YteeeocianofkfaaGreatProg.lean LOADS. Nothing in Lean hashes anything: it is a label: what it is worth is what the hold of that sum in a sandbox is worth. -/
noncomputable def Tryz.pinned : Pinned := { name := "yteeeocianofkfaagreat", sum := "1e40e69af0947fb17b108c6efd00b361cc8b25febdfb432eb75a930827440f87", checked := Tryz.checked }
namespace Rows
def none {H : Type} : Left H := { results := [], args := [] }

/-- 'starfishlaw08.WelchFar': WHATEVER THE INPUT: true; the input reads as it did. -/
def welchFarSpec : ChangeSpec := { name := "welchFar", fn := fun _ => fun
  | [d1, d2, d3] => { results := [.lit (.bool true)], args := [d1, d2, d3] }
  | _ => none }
def welchFarRow : OpenClaim := { program := "yteeeocianofkfaagreat", sum := "1e40e69af0947fb17b108c6efd00b361cc8b25febdfb432eb75a930827440f87", func := "starfish/starfishlaw08.WelchFar", spec := "welchFar", inPlace := ["sync/atomic.LoadUint32", "(*internal/sync.Mutex).Lock", "internal/race.Disable", "sync/atomic.CompareAndSwapInt32", "internal/race.Enable", "internal/race.Acquire", "(*internal/sync.Mutex).lockSlow", "internal/sync.runtime_canSpin", "internal/sync.runtime_doSpin", "internal/sync.throw", "internal/sync.runtime_nanotime", "internal/sync.runtime_SemacquireMutex", "sync/atomic.AddInt32", "(*internal/sync.Mutex).Unlock", "internal/race.ReleaseMerge", "(*internal/sync.Mutex).unlockSlow", "internal/sync.fatal", "internal/sync.runtime_Semrelease", "sync/atomic.StoreUint32"], unfollowed := true, recurses := true, apart := false }
def WelchFarSaid : Prop := welchFarRow.holds Tryz.pinned (OpenSpec.ofChange welchFarSpec)

/-- ITS FALSE NEIGHBOUR: 'it returns false'. Refute it at one input. -/
def welchFarWrong : ChangeSpec := { name := "welchFar", fn := fun _ => fun
  | [d1, d2, d3] => { results := [.lit (.bool false)], args := [d1, d2, d3] }
  | _ => none }
def WelchFarWrongFalsely : Prop := welchFarRow.holds Tryz.pinned (OpenSpec.ofChange welchFarWrong)

/-- 'starfishlaw08.WelchOnly': WHATEVER THE INPUT: true; the input reads as it did. -/
def welchOnlySpec : ChangeSpec := { name := "welchOnly", fn := fun _ => fun
  | [d1, d2, d3, d4, d5] => { results := [.lit (.bool true)], args := [d1, d2, d3, d4, d5] }
  | _ => none }
def welchOnlyRow : OpenClaim := { program := "yteeeocianofkfaagreat", sum := "1e40e69af0947fb17b108c6efd00b361cc8b25febdfb432eb75a930827440f87", func := "starfish/starfishlaw08.WelchOnly", spec := "welchOnly", inPlace := ["sync/atomic.LoadUint32", "(*internal/sync.Mutex).Lock", "internal/race.Disable", "sync/atomic.CompareAndSwapInt32", "internal/race.Enable", "internal/race.Acquire", "(*internal/sync.Mutex).lockSlow", "internal/sync.runtime_canSpin", "internal/sync.runtime_doSpin", "internal/sync.throw", "internal/sync.runtime_nanotime", "internal/sync.runtime_SemacquireMutex", "sync/atomic.AddInt32", "(*internal/sync.Mutex).Unlock", "internal/race.ReleaseMerge", "(*internal/sync.Mutex).unlockSlow", "internal/sync.fatal", "internal/sync.runtime_Semrelease", "sync/atomic.StoreUint32"], unfollowed := true, recurses := true, apart := false }
def WelchOnlySaid : Prop := welchOnlyRow.holds Tryz.pinned (OpenSpec.ofChange welchOnlySpec)

/-- ITS FALSE NEIGHBOUR: 'it returns false'. Refute it at one input. -/
def welchOnlyWrong : ChangeSpec := { name := "welchOnly", fn := fun _ => fun
  | [d1, d2, d3, d4, d5] => { results := [.lit (.bool false)], args := [d1, d2, d3, d4, d5] }
  | _ => none }
def WelchOnlyWrongFalsely : Prop := welchOnlyRow.holds Tryz.pinned (OpenSpec.ofChange welchOnlyWrong)

/-- 'starfishlaw08.WelchErased': WHATEVER THE INPUT: true; the input reads as it did. -/
def welchErasedSpec : ChangeSpec := { name := "welchErased", fn := fun _ => fun
  | [d1, d2, d3, d4, d5, d6] => { results := [.lit (.bool true)], args := [d1, d2, d3, d4, d5, d6] }
  | _ => none }
def welchErasedRow : OpenClaim := { program := "yteeeocianofkfaagreat", sum := "1e40e69af0947fb17b108c6efd00b361cc8b25febdfb432eb75a930827440f87", func := "starfish/starfishlaw08.WelchErased", spec := "welchErased", inPlace := ["sync/atomic.LoadUint32", "(*internal/sync.Mutex).Lock", "internal/race.Disable", "sync/atomic.CompareAndSwapInt32", "internal/race.Enable", "internal/race.Acquire", "(*internal/sync.Mutex).lockSlow", "internal/sync.runtime_canSpin", "internal/sync.runtime_doSpin", "internal/sync.throw", "internal/sync.runtime_nanotime", "internal/sync.runtime_SemacquireMutex", "sync/atomic.AddInt32", "(*internal/sync.Mutex).Unlock", "internal/race.ReleaseMerge", "(*internal/sync.Mutex).unlockSlow", "internal/sync.fatal", "internal/sync.runtime_Semrelease", "sync/atomic.StoreUint32"], unfollowed := true, recurses := true, apart := false }
def WelchErasedSaid : Prop := welchErasedRow.holds Tryz.pinned (OpenSpec.ofChange welchErasedSpec)

/-- ITS FALSE NEIGHBOUR: 'it returns false'. Refute it at one input. -/
def welchErasedWrong : ChangeSpec := { name := "welchErased", fn := fun _ => fun
  | [d1, d2, d3, d4, d5, d6] => { results := [.lit (.bool false)], args := [d1, d2, d3, d4, d5, d6] }
  | _ => none }
def WelchErasedWrongFalsely : Prop := welchErasedRow.holds Tryz.pinned (OpenSpec.ofChange welchErasedWrong)

/-- 'starfishlaw08.WelchTurned': WHATEVER THE INPUT: true; the input reads as it did. -/
def welchTurnedSpec : ChangeSpec := { name := "welchTurned", fn := fun _ => fun
  | [d1, d2, d3, d4, d5, d6] => { results := [.lit (.bool true)], args := [d1, d2, d3, d4, d5, d6] }
  | _ => none }
def welchTurnedRow : OpenClaim := { program := "yteeeocianofkfaagreat", sum := "1e40e69af0947fb17b108c6efd00b361cc8b25febdfb432eb75a930827440f87", func := "starfish/starfishlaw08.WelchTurned", spec := "welchTurned", inPlace := ["sync/atomic.LoadUint32", "(*internal/sync.Mutex).Lock", "internal/race.Disable", "sync/atomic.CompareAndSwapInt32", "internal/race.Enable", "internal/race.Acquire", "(*internal/sync.Mutex).lockSlow", "internal/sync.runtime_canSpin", "internal/sync.runtime_doSpin", "internal/sync.throw", "internal/sync.runtime_nanotime", "internal/sync.runtime_SemacquireMutex", "sync/atomic.AddInt32", "(*internal/sync.Mutex).Unlock", "internal/race.ReleaseMerge", "(*internal/sync.Mutex).unlockSlow", "internal/sync.fatal", "internal/sync.runtime_Semrelease", "sync/atomic.StoreUint32"], unfollowed := true, recurses := true, apart := false }
def WelchTurnedSaid : Prop := welchTurnedRow.holds Tryz.pinned (OpenSpec.ofChange welchTurnedSpec)

/-- ITS FALSE NEIGHBOUR: 'it returns false'. Refute it at one input. -/
def welchTurnedWrong : ChangeSpec := { name := "welchTurned", fn := fun _ => fun
  | [d1, d2, d3, d4, d5, d6] => { results := [.lit (.bool false)], args := [d1, d2, d3, d4, d5, d6] }
  | _ => none }
def WelchTurnedWrongFalsely : Prop := welchTurnedRow.holds Tryz.pinned (OpenSpec.ofChange welchTurnedWrong)

/-- 'starfishlaw08.WelchDecode': WHATEVER THE INPUT: true; the input reads as it did. -/
def welchDecodeSpec : ChangeSpec := { name := "welchDecode", fn := fun _ => fun
  | [d1, d2, d3, d4, d5] => { results := [.lit (.bool true)], args := [d1, d2, d3, d4, d5] }
  | _ => none }
def welchDecodeRow : OpenClaim := { program := "yteeeocianofkfaagreat", sum := "1e40e69af0947fb17b108c6efd00b361cc8b25febdfb432eb75a930827440f87", func := "starfish/starfishlaw08.WelchDecode", spec := "welchDecode", inPlace := ["sync/atomic.LoadUint32", "(*internal/sync.Mutex).Lock", "internal/race.Disable", "sync/atomic.CompareAndSwapInt32", "internal/race.Enable", "internal/race.Acquire", "(*internal/sync.Mutex).lockSlow", "internal/sync.runtime_canSpin", "internal/sync.runtime_doSpin", "internal/sync.throw", "internal/sync.runtime_nanotime", "internal/sync.runtime_SemacquireMutex", "sync/atomic.AddInt32", "(*internal/sync.Mutex).Unlock", "internal/race.ReleaseMerge", "(*internal/sync.Mutex).unlockSlow", "internal/sync.fatal", "internal/sync.runtime_Semrelease", "sync/atomic.StoreUint32"], unfollowed := true, recurses := true, apart := false }
def WelchDecodeSaid : Prop := welchDecodeRow.holds Tryz.pinned (OpenSpec.ofChange welchDecodeSpec)

/-- ITS FALSE NEIGHBOUR: 'it returns false'. Refute it at one input. -/
def welchDecodeWrong : ChangeSpec := { name := "welchDecode", fn := fun _ => fun
  | [d1, d2, d3, d4, d5] => { results := [.lit (.bool false)], args := [d1, d2, d3, d4, d5] }
  | _ => none }
def WelchDecodeWrongFalsely : Prop := welchDecodeRow.holds Tryz.pinned (OpenSpec.ofChange welchDecodeWrong)

/-- 'starfishlaw08.WelchMends': WHATEVER THE INPUT: true; the input reads as it did. -/
def welchMendsSpec : ChangeSpec := { name := "welchMends", fn := fun _ => fun
  | [d1, d2, d3, d4, d5, d6] => { results := [.lit (.bool true)], args := [d1, d2, d3, d4, d5, d6] }
  | _ => none }
def welchMendsRow : OpenClaim := { program := "yteeeocianofkfaagreat", sum := "1e40e69af0947fb17b108c6efd00b361cc8b25febdfb432eb75a930827440f87", func := "starfish/starfishlaw08.WelchMends", spec := "welchMends", inPlace := ["sync/atomic.LoadUint32", "(*internal/sync.Mutex).Lock", "internal/race.Disable", "sync/atomic.CompareAndSwapInt32", "internal/race.Enable", "internal/race.Acquire", "(*internal/sync.Mutex).lockSlow", "internal/sync.runtime_canSpin", "internal/sync.runtime_doSpin", "internal/sync.throw", "internal/sync.runtime_nanotime", "internal/sync.runtime_SemacquireMutex", "sync/atomic.AddInt32", "(*internal/sync.Mutex).Unlock", "internal/race.ReleaseMerge", "(*internal/sync.Mutex).unlockSlow", "internal/sync.fatal", "internal/sync.runtime_Semrelease", "sync/atomic.StoreUint32"], unfollowed := true, recurses := true, apart := false }
def WelchMendsSaid : Prop := welchMendsRow.holds Tryz.pinned (OpenSpec.ofChange welchMendsSpec)

/-- ITS FALSE NEIGHBOUR: 'it returns false'. Refute it at one input. -/
def welchMendsWrong : ChangeSpec := { name := "welchMends", fn := fun _ => fun
  | [d1, d2, d3, d4, d5, d6] => { results := [.lit (.bool false)], args := [d1, d2, d3, d4, d5, d6] }
  | _ => none }
def WelchMendsWrongFalsely : Prop := welchMendsRow.holds Tryz.pinned (OpenSpec.ofChange welchMendsWrong)

/-- 'starfishlaw08.WelchKnown': WHATEVER THE INPUT: true; the input reads as it did. -/
def welchKnownSpec : ChangeSpec := { name := "welchKnown", fn := fun _ => fun
  | [] => { results := [.lit (.bool true)], args := [] }
  | _ => none }
def welchKnownRow : OpenClaim := { program := "yteeeocianofkfaagreat", sum := "1e40e69af0947fb17b108c6efd00b361cc8b25febdfb432eb75a930827440f87", func := "starfish/starfishlaw08.WelchKnown", spec := "welchKnown", inPlace := ["sync/atomic.LoadUint32", "(*internal/sync.Mutex).Lock", "internal/race.Disable", "sync/atomic.CompareAndSwapInt32", "internal/race.Enable", "internal/race.Acquire", "(*internal/sync.Mutex).lockSlow", "internal/sync.runtime_canSpin", "internal/sync.runtime_doSpin", "internal/sync.throw", "internal/sync.runtime_nanotime", "internal/sync.runtime_SemacquireMutex", "sync/atomic.AddInt32", "(*internal/sync.Mutex).Unlock", "internal/race.ReleaseMerge", "(*internal/sync.Mutex).unlockSlow", "internal/sync.fatal", "internal/sync.runtime_Semrelease", "sync/atomic.StoreUint32"], unfollowed := true, recurses := true, apart := false }
def WelchKnownSaid : Prop := welchKnownRow.holds Tryz.pinned (OpenSpec.ofChange welchKnownSpec)

/-- ITS FALSE NEIGHBOUR: 'it returns false'. Refute it at one input. -/
def welchKnownWrong : ChangeSpec := { name := "welchKnown", fn := fun _ => fun
  | [] => { results := [.lit (.bool false)], args := [] }
  | _ => none }
def WelchKnownWrongFalsely : Prop := welchKnownRow.holds Tryz.pinned (OpenSpec.ofChange welchKnownWrong)

/- THE SECOND FORM. 'bulk': how many values and letters a reading holds, each counted each time it is reached (what is shared counts as often as it is met; a slice's spare places count too). A statement '..UptoSaid' is the law's where the arguments, and the package variables that the reading takes, are together of bulk at most 1048576: NARROWER than '..Said'. Prove '..Said' where nothing that the law and all that it calls make is longer than what came in: it says more and counts as full. Else prove '..UptoSaid'. A law counts once. -/
mutual
def uptoBulk {H : Type} : DataW H → Nat
  | .lit (.string bytes) => bytes.length + 1
  | .lit _ => 1
  | .nil => 1
  | .ptr d => uptoBulk d + 1
  | .slice elems spare => uptoBulkAll elems + uptoBulkAll spare + 1
  | .agg parts => uptoBulkAll parts + 1
  | .iface _ d => uptoBulk d + 1
  | .map entries => uptoBulkEntries entries + 1
  | .held _ => 1
def uptoBulkAll {H : Type} : List (DataW H) → Nat
  | [] => 0
  | d :: r => uptoBulk d + uptoBulkAll r
def uptoBulkEntries {H : Type} : List (Lit × DataW H) → Nat
  | [] => 0
  | x :: r => uptoBulkEntry x + uptoBulkEntries r
def uptoBulkEntry {H : Type} : Lit × DataW H → Nat
  | (.string bytes, d) => bytes.length + uptoBulk d + 1
  | (_, d) => uptoBulk d + 1
 end
def uptoSmall : (H : Type) → List (DataW H) → Bool := fun _ ds => decide (uptoBulkAll ds ≤ 1048576)
def OpenSpec.upto (s : _root_.Go.ChangeSpec) : _root_.Go.OpenSpec := { _root_.Go.OpenSpec.ofChange s with cond := some uptoSmall }

/-- 'starfishlaw08.WelchFar', WHERE WHAT IT READS IS OF BULK AT MOST 1048576: true; the input reads as it did. -/
def welchFarUptoRow : OpenClaim := { program := "yteeeocianofkfaagreat", sum := "1e40e69af0947fb17b108c6efd00b361cc8b25febdfb432eb75a930827440f87", func := "starfish/starfishlaw08.WelchFar", spec := "welchFar", inPlace := ["sync/atomic.LoadUint32", "(*internal/sync.Mutex).Lock", "internal/race.Disable", "sync/atomic.CompareAndSwapInt32", "internal/race.Enable", "internal/race.Acquire", "(*internal/sync.Mutex).lockSlow", "internal/sync.runtime_canSpin", "internal/sync.runtime_doSpin", "internal/sync.throw", "internal/sync.runtime_nanotime", "internal/sync.runtime_SemacquireMutex", "sync/atomic.AddInt32", "(*internal/sync.Mutex).Unlock", "internal/race.ReleaseMerge", "(*internal/sync.Mutex).unlockSlow", "internal/sync.fatal", "internal/sync.runtime_Semrelease", "sync/atomic.StoreUint32"], unfollowed := true, recurses := true, apart := false, narrowed := true }
def WelchFarUptoSaid : Prop := welchFarUptoRow.holds Tryz.pinned (OpenSpec.upto welchFarSpec)

/-- 'starfishlaw08.WelchOnly', WHERE WHAT IT READS IS OF BULK AT MOST 1048576: true; the input reads as it did. -/
def welchOnlyUptoRow : OpenClaim := { program := "yteeeocianofkfaagreat", sum := "1e40e69af0947fb17b108c6efd00b361cc8b25febdfb432eb75a930827440f87", func := "starfish/starfishlaw08.WelchOnly", spec := "welchOnly", inPlace := ["sync/atomic.LoadUint32", "(*internal/sync.Mutex).Lock", "internal/race.Disable", "sync/atomic.CompareAndSwapInt32", "internal/race.Enable", "internal/race.Acquire", "(*internal/sync.Mutex).lockSlow", "internal/sync.runtime_canSpin", "internal/sync.runtime_doSpin", "internal/sync.throw", "internal/sync.runtime_nanotime", "internal/sync.runtime_SemacquireMutex", "sync/atomic.AddInt32", "(*internal/sync.Mutex).Unlock", "internal/race.ReleaseMerge", "(*internal/sync.Mutex).unlockSlow", "internal/sync.fatal", "internal/sync.runtime_Semrelease", "sync/atomic.StoreUint32"], unfollowed := true, recurses := true, apart := false, narrowed := true }
def WelchOnlyUptoSaid : Prop := welchOnlyUptoRow.holds Tryz.pinned (OpenSpec.upto welchOnlySpec)

/-- 'starfishlaw08.WelchErased', WHERE WHAT IT READS IS OF BULK AT MOST 1048576: true; the input reads as it did. -/
def welchErasedUptoRow : OpenClaim := { program := "yteeeocianofkfaagreat", sum := "1e40e69af0947fb17b108c6efd00b361cc8b25febdfb432eb75a930827440f87", func := "starfish/starfishlaw08.WelchErased", spec := "welchErased", inPlace := ["sync/atomic.LoadUint32", "(*internal/sync.Mutex).Lock", "internal/race.Disable", "sync/atomic.CompareAndSwapInt32", "internal/race.Enable", "internal/race.Acquire", "(*internal/sync.Mutex).lockSlow", "internal/sync.runtime_canSpin", "internal/sync.runtime_doSpin", "internal/sync.throw", "internal/sync.runtime_nanotime", "internal/sync.runtime_SemacquireMutex", "sync/atomic.AddInt32", "(*internal/sync.Mutex).Unlock", "internal/race.ReleaseMerge", "(*internal/sync.Mutex).unlockSlow", "internal/sync.fatal", "internal/sync.runtime_Semrelease", "sync/atomic.StoreUint32"], unfollowed := true, recurses := true, apart := false, narrowed := true }
def WelchErasedUptoSaid : Prop := welchErasedUptoRow.holds Tryz.pinned (OpenSpec.upto welchErasedSpec)

/-- 'starfishlaw08.WelchTurned', WHERE WHAT IT READS IS OF BULK AT MOST 1048576: true; the input reads as it did. -/
def welchTurnedUptoRow : OpenClaim := { program := "yteeeocianofkfaagreat", sum := "1e40e69af0947fb17b108c6efd00b361cc8b25febdfb432eb75a930827440f87", func := "starfish/starfishlaw08.WelchTurned", spec := "welchTurned", inPlace := ["sync/atomic.LoadUint32", "(*internal/sync.Mutex).Lock", "internal/race.Disable", "sync/atomic.CompareAndSwapInt32", "internal/race.Enable", "internal/race.Acquire", "(*internal/sync.Mutex).lockSlow", "internal/sync.runtime_canSpin", "internal/sync.runtime_doSpin", "internal/sync.throw", "internal/sync.runtime_nanotime", "internal/sync.runtime_SemacquireMutex", "sync/atomic.AddInt32", "(*internal/sync.Mutex).Unlock", "internal/race.ReleaseMerge", "(*internal/sync.Mutex).unlockSlow", "internal/sync.fatal", "internal/sync.runtime_Semrelease", "sync/atomic.StoreUint32"], unfollowed := true, recurses := true, apart := false, narrowed := true }
def WelchTurnedUptoSaid : Prop := welchTurnedUptoRow.holds Tryz.pinned (OpenSpec.upto welchTurnedSpec)

/-- 'starfishlaw08.WelchDecode', WHERE WHAT IT READS IS OF BULK AT MOST 1048576: true; the input reads as it did. -/
def welchDecodeUptoRow : OpenClaim := { program := "yteeeocianofkfaagreat", sum := "1e40e69af0947fb17b108c6efd00b361cc8b25febdfb432eb75a930827440f87", func := "starfish/starfishlaw08.WelchDecode", spec := "welchDecode", inPlace := ["sync/atomic.LoadUint32", "(*internal/sync.Mutex).Lock", "internal/race.Disable", "sync/atomic.CompareAndSwapInt32", "internal/race.Enable", "internal/race.Acquire", "(*internal/sync.Mutex).lockSlow", "internal/sync.runtime_canSpin", "internal/sync.runtime_doSpin", "internal/sync.throw", "internal/sync.runtime_nanotime", "internal/sync.runtime_SemacquireMutex", "sync/atomic.AddInt32", "(*internal/sync.Mutex).Unlock", "internal/race.ReleaseMerge", "(*internal/sync.Mutex).unlockSlow", "internal/sync.fatal", "internal/sync.runtime_Semrelease", "sync/atomic.StoreUint32"], unfollowed := true, recurses := true, apart := false, narrowed := true }
def WelchDecodeUptoSaid : Prop := welchDecodeUptoRow.holds Tryz.pinned (OpenSpec.upto welchDecodeSpec)

/-- 'starfishlaw08.WelchMends', WHERE WHAT IT READS IS OF BULK AT MOST 1048576: true; the input reads as it did. -/
def welchMendsUptoRow : OpenClaim := { program := "yteeeocianofkfaagreat", sum := "1e40e69af0947fb17b108c6efd00b361cc8b25febdfb432eb75a930827440f87", func := "starfish/starfishlaw08.WelchMends", spec := "welchMends", inPlace := ["sync/atomic.LoadUint32", "(*internal/sync.Mutex).Lock", "internal/race.Disable", "sync/atomic.CompareAndSwapInt32", "internal/race.Enable", "internal/race.Acquire", "(*internal/sync.Mutex).lockSlow", "internal/sync.runtime_canSpin", "internal/sync.runtime_doSpin", "internal/sync.throw", "internal/sync.runtime_nanotime", "internal/sync.runtime_SemacquireMutex", "sync/atomic.AddInt32", "(*internal/sync.Mutex).Unlock", "internal/race.ReleaseMerge", "(*internal/sync.Mutex).unlockSlow", "internal/sync.fatal", "internal/sync.runtime_Semrelease", "sync/atomic.StoreUint32"], unfollowed := true, recurses := true, apart := false, narrowed := true }
def WelchMendsUptoSaid : Prop := welchMendsUptoRow.holds Tryz.pinned (OpenSpec.upto welchMendsSpec)

/-- 'starfishlaw08.WelchKnown', WHERE WHAT IT READS IS OF BULK AT MOST 1048576: true; the input reads as it did. -/
def welchKnownUptoRow : OpenClaim := { program := "yteeeocianofkfaagreat", sum := "1e40e69af0947fb17b108c6efd00b361cc8b25febdfb432eb75a930827440f87", func := "starfish/starfishlaw08.WelchKnown", spec := "welchKnown", inPlace := ["sync/atomic.LoadUint32", "(*internal/sync.Mutex).Lock", "internal/race.Disable", "sync/atomic.CompareAndSwapInt32", "internal/race.Enable", "internal/race.Acquire", "(*internal/sync.Mutex).lockSlow", "internal/sync.runtime_canSpin", "internal/sync.runtime_doSpin", "internal/sync.throw", "internal/sync.runtime_nanotime", "internal/sync.runtime_SemacquireMutex", "sync/atomic.AddInt32", "(*internal/sync.Mutex).Unlock", "internal/race.ReleaseMerge", "(*internal/sync.Mutex).unlockSlow", "internal/sync.fatal", "internal/sync.runtime_Semrelease", "sync/atomic.StoreUint32"], unfollowed := true, recurses := true, apart := false, narrowed := true }
def WelchKnownUptoSaid : Prop := welchKnownUptoRow.holds Tryz.pinned (OpenSpec.upto welchKnownSpec)

end Rows
end Go.Proofs.YteeeocianofkfaaGreat
