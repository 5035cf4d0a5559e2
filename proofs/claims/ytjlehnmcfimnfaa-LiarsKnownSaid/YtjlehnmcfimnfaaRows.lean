/-
  No cell of these rows narrows 'for every input' (looked for: loops, veiled, ifaces, maps, wideKeys, modest, calm, conditions, laid).
  DERIVED. THE GIVEN ROWS OF THIS SEAT. 4 by the template 'for every input the law returns true; each argument reads behind the call as it read before'; 0 by the template 'total and deterministic' (their statements: YtjlehnmcfimnfaaTotals.lean).
  GIVEN WITH THE SEED: the statements are not yours to turn. If you find one false, say at which input.
  Laid BY PROGRAM, IN A SANDBOX (cutbox-rows.mjs): the forced cells as the released guide's own fill.sh prints them over the translation 7f26d9278aa53494… (all of the seat's roots in one cut). By AI agents, Wed Nov 11 2026. No macro, syntax, notation, axiom, sorry.
-/
import Derived.Test.YtjlehnmcfimnfaaChecked
import GoSem.Claim
import GoSem.ClaimJoined
import GoSem.ClaimMapViews
import Derived.JoinedTies
import Derived.KernelRfl
namespace Go.Proofs.Ytjlehnmcfimnfaa
/- THE CELL 'sum', in the pinned program and in every row, IS THE sha256 OF THE DUMP (.gsa) THAT YtjlehnmcfimnfaaProg.lean LOADS. Nothing in Lean hashes anything: it is a label: what it is worth is what the hold of that sum in a sandbox is worth. -/
noncomputable def Try.pinned : Pinned := { name := "ytjlehnmcfimnfaa", sum := "7f26d9278aa53494fc148e278aadd23def1c830935576812ca770a4a68fbc609", checked := Try.checked }
namespace Rows
def none {H : Type} : Left H := { results := [], args := [] }

/-- 'starfishlaw26.LiarsFair': WHATEVER THE INPUT: true; the input reads as it did. -/
def liarsFairSpec : ChangeSpec := { name := "liarsFair", fn := fun _ => fun
  | [d1, d2, d3, d4, d5] => { results := [.lit (.bool true)], args := [d1, d2, d3, d4, d5] }
  | _ => none }
def liarsFairRow : OpenClaim := { program := "ytjlehnmcfimnfaa", sum := "7f26d9278aa53494fc148e278aadd23def1c830935576812ca770a4a68fbc609", func := "starfish/starfishlaw26.LiarsFair", spec := "liarsFair", unfollowed := true, recurses := true, apart := false }
def LiarsFairSaid : Prop := liarsFairRow.holds Try.pinned (OpenSpec.ofChange liarsFairSpec)

/-- ITS FALSE NEIGHBOUR: 'it returns false'. Refute it at one input. -/
def liarsFairWrong : ChangeSpec := { name := "liarsFair", fn := fun _ => fun
  | [d1, d2, d3, d4, d5] => { results := [.lit (.bool false)], args := [d1, d2, d3, d4, d5] }
  | _ => none }
def LiarsFairWrongFalsely : Prop := liarsFairRow.holds Try.pinned (OpenSpec.ofChange liarsFairWrong)

/-- 'starfishlaw26.LiarsPlays': WHATEVER THE INPUT: true; the input reads as it did. -/
def liarsPlaysSpec : ChangeSpec := { name := "liarsPlays", fn := fun _ => fun
  | [d1, d2] => { results := [.lit (.bool true)], args := [d1, d2] }
  | _ => none }
def liarsPlaysRow : OpenClaim := { program := "ytjlehnmcfimnfaa", sum := "7f26d9278aa53494fc148e278aadd23def1c830935576812ca770a4a68fbc609", func := "starfish/starfishlaw26.LiarsPlays", spec := "liarsPlays", unfollowed := true, recurses := true, apart := false }
def LiarsPlaysSaid : Prop := liarsPlaysRow.holds Try.pinned (OpenSpec.ofChange liarsPlaysSpec)

/-- ITS FALSE NEIGHBOUR: 'it returns false'. Refute it at one input. -/
def liarsPlaysWrong : ChangeSpec := { name := "liarsPlays", fn := fun _ => fun
  | [d1, d2] => { results := [.lit (.bool false)], args := [d1, d2] }
  | _ => none }
def LiarsPlaysWrongFalsely : Prop := liarsPlaysRow.holds Try.pinned (OpenSpec.ofChange liarsPlaysWrong)

/-- 'starfishlaw26.LiarsLater': WHATEVER THE INPUT: true; the input reads as it did. -/
def liarsLaterSpec : ChangeSpec := { name := "liarsLater", fn := fun _ => fun
  | [d1, d2, d3, d4] => { results := [.lit (.bool true)], args := [d1, d2, d3, d4] }
  | _ => none }
def liarsLaterRow : OpenClaim := { program := "ytjlehnmcfimnfaa", sum := "7f26d9278aa53494fc148e278aadd23def1c830935576812ca770a4a68fbc609", func := "starfish/starfishlaw26.LiarsLater", spec := "liarsLater", unfollowed := true, recurses := true, apart := false }
def LiarsLaterSaid : Prop := liarsLaterRow.holds Try.pinned (OpenSpec.ofChange liarsLaterSpec)

/-- ITS FALSE NEIGHBOUR: 'it returns false'. Refute it at one input. -/
def liarsLaterWrong : ChangeSpec := { name := "liarsLater", fn := fun _ => fun
  | [d1, d2, d3, d4] => { results := [.lit (.bool false)], args := [d1, d2, d3, d4] }
  | _ => none }
def LiarsLaterWrongFalsely : Prop := liarsLaterRow.holds Try.pinned (OpenSpec.ofChange liarsLaterWrong)

/-- 'starfishlaw26.LiarsKnown': WHATEVER THE INPUT: true; the input reads as it did. -/
def liarsKnownSpec : ChangeSpec := { name := "liarsKnown", fn := fun _ => fun
  | [] => { results := [.lit (.bool true)], args := [] }
  | _ => none }
def liarsKnownRow : OpenClaim := { program := "ytjlehnmcfimnfaa", sum := "7f26d9278aa53494fc148e278aadd23def1c830935576812ca770a4a68fbc609", func := "starfish/starfishlaw26.LiarsKnown", spec := "liarsKnown", unfollowed := true, recurses := true, apart := false }
def LiarsKnownSaid : Prop := liarsKnownRow.holds Try.pinned (OpenSpec.ofChange liarsKnownSpec)

/-- ITS FALSE NEIGHBOUR: 'it returns false'. Refute it at one input. -/
def liarsKnownWrong : ChangeSpec := { name := "liarsKnown", fn := fun _ => fun
  | [] => { results := [.lit (.bool false)], args := [] }
  | _ => none }
def LiarsKnownWrongFalsely : Prop := liarsKnownRow.holds Try.pinned (OpenSpec.ofChange liarsKnownWrong)

/- THE SECOND FORM. 'bulk': how many values and letters a reading holds, each counted each time it is reached (what is shared counts as often as it is met; a slice's spare places count too). A statement '..UptoSaid' is the law's where the arguments, and the package variables that the reading takes, are together of bulk at most 1048576: NARROWER than '..Said'. Prove '..Said' where nothing that the law and all that it calls make is longer than what came in: it says more and counts as full. Else prove '..UptoSaid'. A law counts once. -/
mutual
def uptoBulk {H : Type} : DataW H → Nat
  | .lit (.string bytes) => bytes.length + 1
  | .lit _ => 1
  | .nil => 1
  | .ptr d => uptoBulk d + 1
  | .slice elems spare => uptoBulkAll elems + uptoBulkAll spare + 1
  | .agg parts => uptoBulkAll parts + 1
  | .iface _ d => uptoBulk d + 1
  | .map entries => uptoBulkEntries entries + 1
  | .held _ => 1
def uptoBulkAll {H : Type} : List (DataW H) → Nat
  | [] => 0
  | d :: r => uptoBulk d + uptoBulkAll r
def uptoBulkEntries {H : Type} : List (Lit × DataW H) → Nat
  | [] => 0
  | x :: r => uptoBulkEntry x + uptoBulkEntries r
def uptoBulkEntry {H : Type} : Lit × DataW H → Nat
  | (.string bytes, d) => bytes.length + uptoBulk d + 1
  | (_, d) => uptoBulk d + 1
 end
def uptoSmall : (H : Type) → List (DataW H) → Bool := fun _ ds => decide (uptoBulkAll ds ≤ 1048576)
def OpenSpec.upto (s : _root_.Go.ChangeSpec) : _root_.Go.OpenSpec := { _root_.Go.OpenSpec.ofChange s with cond := some uptoSmall }

/-- 'starfishlaw26.LiarsFair', WHERE WHAT IT READS IS OF BULK AT MOST 1048576: true; the input reads as it did. -/
def liarsFairUptoRow : OpenClaim := { program := "ytjlehnmcfimnfaa", sum := "7f26d9278aa53494fc148e278aadd23def1c830935576812ca770a4a68fbc609", func := "starfish/starfishlaw26.LiarsFair", spec := "liarsFair", unfollowed := true, recurses := true, apart := false, narrowed := true }
def LiarsFairUptoSaid : Prop := liarsFairUptoRow.holds Try.pinned (OpenSpec.upto liarsFairSpec)

/-- 'starfishlaw26.LiarsPlays', WHERE WHAT IT READS IS OF BULK AT MOST 1048576: true; the input reads as it did. -/
def liarsPlaysUptoRow : OpenClaim := { program := "ytjlehnmcfimnfaa", sum := "7f26d9278aa53494fc148e278aadd23def1c830935576812ca770a4a68fbc609", func := "starfish/starfishlaw26.LiarsPlays", spec := "liarsPlays", unfollowed := true, recurses := true, apart := false, narrowed := true }
def LiarsPlaysUptoSaid : Prop := liarsPlaysUptoRow.holds Try.pinned (OpenSpec.upto liarsPlaysSpec)

/-- 'starfishlaw26.LiarsLater', WHERE WHAT IT READS IS OF BULK AT MOST 1048576: true; the input reads as it did. -/
def liarsLaterUptoRow : OpenClaim := { program := "ytjlehnmcfimnfaa", sum := "7f26d9278aa53494fc148e278aadd23def1c830935576812ca770a4a68fbc609", func := "starfish/starfishlaw26.LiarsLater", spec := "liarsLater", unfollowed := true, recurses := true, apart := false, narrowed := true }
def LiarsLaterUptoSaid : Prop := liarsLaterUptoRow.holds Try.pinned (OpenSpec.upto liarsLaterSpec)

/-- 'starfishlaw26.LiarsKnown', WHERE WHAT IT READS IS OF BULK AT MOST 1048576: true; the input reads as it did. -/
def liarsKnownUptoRow : OpenClaim := { program := "ytjlehnmcfimnfaa", sum := "7f26d9278aa53494fc148e278aadd23def1c830935576812ca770a4a68fbc609", func := "starfish/starfishlaw26.LiarsKnown", spec := "liarsKnown", unfollowed := true, recurses := true, apart := false, narrowed := true }
def LiarsKnownUptoSaid : Prop := liarsKnownUptoRow.holds Try.pinned (OpenSpec.upto liarsKnownSpec)

end Rows
end Go.Proofs.Ytjlehnmcfimnfaa
