/-
  Arguments as the frame has them.
  Arguments that are structs by value: opened field by field.
-/
import Derived.Test.YtbiaoohodjoojaaGreatSyG
import Derived.ChangeSlices
import Derived.Lib.SmallJoins
import Derived.ProofKit
import Derived.OpenShut
import Derived.ChangeOld
import Derived.Below
/- Arguments as the frame has them. -/
namespace Go.Proofs.YtbiaoohodjoojaaGreat
open Go.RowKit
theorem u8_natS {a:Int} (h:(Lit.int .u8 a).wf=true):∃ n:Nat,a=(n:Int)∧n < 256:=⟨a.toNat,by have:=byte_wf h;omega,by have:=byte_wf h;omega⟩
end Go.Proofs.YtbiaoohodjoojaaGreat
/- Arguments that are structs by value: opened field by field. -/
namespace Go.Proofs.YtbiaoohodjoojaaGreat
open Go.Joins Go.ChangeShapes Go.WideShapes Go.RowKit Go.Deep

section
variable {H:Type} {enc:TypeId × Value→H} {P:Program} {w:World} {base:Nat} {spare:Nat→Bool} {held:Bool}
end
end Go.Proofs.YtbiaoohodjoojaaGreat
