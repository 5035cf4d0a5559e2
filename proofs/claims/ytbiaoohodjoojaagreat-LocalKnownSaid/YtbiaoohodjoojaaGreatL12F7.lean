/-
  The law LocalKnown, as the frame has it.
-/
import Derived.Test.YtbiaoohodjoojaaGreatL12K
namespace Go.Proofs.YtbiaoohodjoojaaGreat
open Go.RowKit
theorem law_lknown (w:World):Calls Tryz.prog 9 #[] w fun e w'=>e=.returned (.bool true)∧Below w.heap.size w w':=lknown12_any w
end Go.Proofs.YtbiaoohodjoojaaGreat
