/-
  Arguments that are structs by value: opened field by field.
-/
import Derived.Lib.SmallJoins
import Derived.ProofKit
import Derived.OpenShut
import Derived.ChangeOld
import Derived.Below
/- Arguments that are structs by value: opened field by field. -/
namespace Go.Proofs.YtcclhhjcejmepaaGreat
open Go.Joins Go.ChangeShapes Go.WideShapes Go.RowKit Go.Deep

section
variable {H:Type} {enc:TypeId × Value→H} {P:Program} {w:World} {base:Nat} {spare:Nat→Bool} {held:Bool}
end
end Go.Proofs.YtcclhhjcejmepaaGreat
