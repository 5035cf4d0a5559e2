/-
  No cell of these rows narrows 'for every input' (looked for: loops, veiled, ifaces, maps, wideKeys, modest, calm, conditions, laid).
  DERIVED. THE GIVEN ROWS OF THIS SEAT. 5 by the template 'for every input the law returns true; each argument reads behind the call as it read before'; 0 by the template 'total and deterministic' (their statements: YtggecoekoilahaaTotals.lean).
  GIVEN WITH THE SEED: the statements are not yours to turn. If you find one false, say at which input.
  Laid BY PROGRAM, IN A SANDBOX (cutbox-rows.mjs): the forced cells as the released guide's own fill.sh prints them over the translation 8622307ab0670354… (all of the seat's roots in one cut). By AI agents, Wed Nov 11 2026. No macro, syntax, notation, axiom, sorry.
-/
import Derived.Test.YtggecoekoilahaaChecked
import GoSem.Claim
import GoSem.ClaimJoined
import GoSem.ClaimMapViews
import Derived.JoinedTies
import Derived.KernelRfl
namespace Go.Proofs.Ytggecoekoilahaa
/- THE CELL 'sum', in the pinned program and in every row, IS THE sha256 OF THE DUMP (.gsa) THAT YtggecoekoilahaaProg.lean LOADS. Nothing in Lean hashes anything: it is a label: what it is worth is what the hold of that sum in a sandbox is worth. -/
noncomputable def Try.pinned : Pinned := { name := "ytggecoekoilahaa", sum := "8622307ab06703543c69a11bc73af415a90b3a66d154979262811e0002711d20", checked := Try.checked }
namespace Rows
def none {H : Type} : Left H := { results := [], args := [] }

/-- 'starfishlaw29.IdealLess': WHATEVER THE INPUT: true; the input reads as it did. -/
def idealLessSpec : ChangeSpec := { name := "idealLess", fn := fun _ => fun
  | [d1, d2] => { results := [.lit (.bool true)], args := [d1, d2] }
  | _ => none }
def idealLessRow : OpenClaim := { program := "ytggecoekoilahaa", sum := "8622307ab06703543c69a11bc73af415a90b3a66d154979262811e0002711d20", func := "starfish/starfishlaw29.IdealLess", spec := "idealLess", unfollowed := true, recurses := true, plainKeys := false, apart := false }
def IdealLessSaid : Prop := idealLessRow.holds Try.pinned (OpenSpec.ofChange idealLessSpec)

/-- ITS FALSE NEIGHBOUR: 'it returns false'. Refute it at one input. -/
def idealLessWrong : ChangeSpec := { name := "idealLess", fn := fun _ => fun
  | [d1, d2] => { results := [.lit (.bool false)], args := [d1, d2] }
  | _ => none }
def IdealLessWrongFalsely : Prop := idealLessRow.holds Try.pinned (OpenSpec.ofChange idealLessWrong)

/-- 'starfishlaw29.IdealRow': WHATEVER THE INPUT: true; the input reads as it did. -/
def idealRowSpec : ChangeSpec := { name := "idealRow", fn := fun _ => fun
  | [d1, d2] => { results := [.lit (.bool true)], args := [d1, d2] }
  | _ => none }
def idealRowRow : OpenClaim := { program := "ytggecoekoilahaa", sum := "8622307ab06703543c69a11bc73af415a90b3a66d154979262811e0002711d20", func := "starfish/starfishlaw29.IdealRow", spec := "idealRow", unfollowed := true, recurses := true, plainKeys := false, apart := false }
def IdealRowSaid : Prop := idealRowRow.holds Try.pinned (OpenSpec.ofChange idealRowSpec)

/-- ITS FALSE NEIGHBOUR: 'it returns false'. Refute it at one input. -/
def idealRowWrong : ChangeSpec := { name := "idealRow", fn := fun _ => fun
  | [d1, d2] => { results := [.lit (.bool false)], args := [d1, d2] }
  | _ => none }
def IdealRowWrongFalsely : Prop := idealRowRow.holds Try.pinned (OpenSpec.ofChange idealRowWrong)

/-- 'starfishlaw29.IdealOpen': WHATEVER THE INPUT: true; the input reads as it did. -/
def idealOpenSpec : ChangeSpec := { name := "idealOpen", fn := fun _ => fun
  | [d1, d2] => { results := [.lit (.bool true)], args := [d1, d2] }
  | _ => none }
def idealOpenRow : OpenClaim := { program := "ytggecoekoilahaa", sum := "8622307ab06703543c69a11bc73af415a90b3a66d154979262811e0002711d20", func := "starfish/starfishlaw29.IdealOpen", spec := "idealOpen", unfollowed := true, recurses := true, plainKeys := false, apart := false }
def IdealOpenSaid : Prop := idealOpenRow.holds Try.pinned (OpenSpec.ofChange idealOpenSpec)

/-- ITS FALSE NEIGHBOUR: 'it returns false'. Refute it at one input. -/
def idealOpenWrong : ChangeSpec := { name := "idealOpen", fn := fun _ => fun
  | [d1, d2] => { results := [.lit (.bool false)], args := [d1, d2] }
  | _ => none }
def IdealOpenWrongFalsely : Prop := idealOpenRow.holds Try.pinned (OpenSpec.ofChange idealOpenWrong)

/-- 'starfishlaw29.IdealPermits': WHATEVER THE INPUT: true; the input reads as it did. -/
def idealPermitsSpec : ChangeSpec := { name := "idealPermits", fn := fun _ => fun
  | [d1, d2] => { results := [.lit (.bool true)], args := [d1, d2] }
  | _ => none }
def idealPermitsRow : OpenClaim := { program := "ytggecoekoilahaa", sum := "8622307ab06703543c69a11bc73af415a90b3a66d154979262811e0002711d20", func := "starfish/starfishlaw29.IdealPermits", spec := "idealPermits", unfollowed := true, recurses := true, plainKeys := false, apart := false }
def IdealPermitsSaid : Prop := idealPermitsRow.holds Try.pinned (OpenSpec.ofChange idealPermitsSpec)

/-- ITS FALSE NEIGHBOUR: 'it returns false'. Refute it at one input. -/
def idealPermitsWrong : ChangeSpec := { name := "idealPermits", fn := fun _ => fun
  | [d1, d2] => { results := [.lit (.bool false)], args := [d1, d2] }
  | _ => none }
def IdealPermitsWrongFalsely : Prop := idealPermitsRow.holds Try.pinned (OpenSpec.ofChange idealPermitsWrong)

/-- 'starfishlaw29.IdealKnown': WHATEVER THE INPUT: true; the input reads as it did. -/
def idealKnownSpec : ChangeSpec := { name := "idealKnown", fn := fun _ => fun
  | [] => { results := [.lit (.bool true)], args := [] }
  | _ => none }
def idealKnownRow : OpenClaim := { program := "ytggecoekoilahaa", sum := "8622307ab06703543c69a11bc73af415a90b3a66d154979262811e0002711d20", func := "starfish/starfishlaw29.IdealKnown", spec := "idealKnown", unfollowed := true, recurses := true, plainKeys := false, apart := false }
def IdealKnownSaid : Prop := idealKnownRow.holds Try.pinned (OpenSpec.ofChange idealKnownSpec)

/-- ITS FALSE NEIGHBOUR: 'it returns false'. Refute it at one input. -/
def idealKnownWrong : ChangeSpec := { name := "idealKnown", fn := fun _ => fun
  | [] => { results := [.lit (.bool false)], args := [] }
  | _ => none }
def IdealKnownWrongFalsely : Prop := idealKnownRow.holds Try.pinned (OpenSpec.ofChange idealKnownWrong)

/- THE SECOND FORM. 'bulk': how many values and letters a reading holds, each counted each time it is reached (what is shared counts as often as it is met; a slice's spare places count too). A statement '..UptoSaid' is the law's where the arguments, and the package variables that the reading takes, are together of bulk at most 1048576: NARROWER than '..Said'. Prove '..Said' where nothing that the law and all that it calls make is longer than what came in: it says more and counts as full. Else prove '..UptoSaid'. A law counts once. -/
mutual
def uptoBulk {H : Type} : DataW H → Nat
  | .lit (.string bytes) => bytes.length + 1
  | .lit _ => 1
  | .nil => 1
  | .ptr d => uptoBulk d + 1
  | .slice elems spare => uptoBulkAll elems + uptoBulkAll spare + 1
  | .agg parts => uptoBulkAll parts + 1
  | .iface _ d => uptoBulk d + 1
  | .map entries => uptoBulkEntries entries + 1
  | .held _ => 1
def uptoBulkAll {H : Type} : List (DataW H) → Nat
  | [] => 0
  | d :: r => uptoBulk d + uptoBulkAll r
def uptoBulkEntries {H : Type} : List (Lit × DataW H) → Nat
  | [] => 0
  | x :: r => uptoBulkEntry x + uptoBulkEntries r
def uptoBulkEntry {H : Type} : Lit × DataW H → Nat
  | (.string bytes, d) => bytes.length + uptoBulk d + 1
  | (_, d) => uptoBulk d + 1
 end
def uptoSmall : (H : Type) → List (DataW H) → Bool := fun _ ds => decide (uptoBulkAll ds ≤ 1048576)
def OpenSpec.upto (s : _root_.Go.ChangeSpec) : _root_.Go.OpenSpec := { _root_.Go.OpenSpec.ofChange s with cond := some uptoSmall }

/-- 'starfishlaw29.IdealLess', WHERE WHAT IT READS IS OF BULK AT MOST 1048576: true; the input reads as it did. -/
def idealLessUptoRow : OpenClaim := { program := "ytggecoekoilahaa", sum := "8622307ab06703543c69a11bc73af415a90b3a66d154979262811e0002711d20", func := "starfish/starfishlaw29.IdealLess", spec := "idealLess", unfollowed := true, recurses := true, plainKeys := false, apart := false, narrowed := true }
def IdealLessUptoSaid : Prop := idealLessUptoRow.holds Try.pinned (OpenSpec.upto idealLessSpec)

/-- 'starfishlaw29.IdealRow', WHERE WHAT IT READS IS OF BULK AT MOST 1048576: true; the input reads as it did. -/
def idealRowUptoRow : OpenClaim := { program := "ytggecoekoilahaa", sum := "8622307ab06703543c69a11bc73af415a90b3a66d154979262811e0002711d20", func := "starfish/starfishlaw29.IdealRow", spec := "idealRow", unfollowed := true, recurses := true, plainKeys := false, apart := false, narrowed := true }
def IdealRowUptoSaid : Prop := idealRowUptoRow.holds Try.pinned (OpenSpec.upto idealRowSpec)

/-- 'starfishlaw29.IdealOpen', WHERE WHAT IT READS IS OF BULK AT MOST 1048576: true; the input reads as it did. -/
def idealOpenUptoRow : OpenClaim := { program := "ytggecoekoilahaa", sum := "8622307ab06703543c69a11bc73af415a90b3a66d154979262811e0002711d20", func := "starfish/starfishlaw29.IdealOpen", spec := "idealOpen", unfollowed := true, recurses := true, plainKeys := false, apart := false, narrowed := true }
def IdealOpenUptoSaid : Prop := idealOpenUptoRow.holds Try.pinned (OpenSpec.upto idealOpenSpec)

/-- 'starfishlaw29.IdealPermits', WHERE WHAT IT READS IS OF BULK AT MOST 1048576: true; the input reads as it did. -/
def idealPermitsUptoRow : OpenClaim := { program := "ytggecoekoilahaa", sum := "8622307ab06703543c69a11bc73af415a90b3a66d154979262811e0002711d20", func := "starfish/starfishlaw29.IdealPermits", spec := "idealPermits", unfollowed := true, recurses := true, plainKeys := false, apart := false, narrowed := true }
def IdealPermitsUptoSaid : Prop := idealPermitsUptoRow.holds Try.pinned (OpenSpec.upto idealPermitsSpec)

/-- 'starfishlaw29.IdealKnown', WHERE WHAT IT READS IS OF BULK AT MOST 1048576: true; the input reads as it did. -/
def idealKnownUptoRow : OpenClaim := { program := "ytggecoekoilahaa", sum := "8622307ab06703543c69a11bc73af415a90b3a66d154979262811e0002711d20", func := "starfish/starfishlaw29.IdealKnown", spec := "idealKnown", unfollowed := true, recurses := true, plainKeys := false, apart := false, narrowed := true }
def IdealKnownUptoSaid : Prop := idealKnownUptoRow.holds Try.pinned (OpenSpec.upto idealKnownSpec)

end Rows
end Go.Proofs.Ytggecoekoilahaa
