/-
  The law TransferKnown, as the frame has its arguments.
-/
import Derived.Test.YtjdnicacnaokdaaGreatL11Known
namespace Go.Proofs.YtjdnicacnaokdaaGreat
open Go.RowKit
theorem law_trknown (w:World) :
  Calls Tryz.prog 8 #[] w fun e w'=>e=.returned (.bool true)∧Below w.heap.size w w':=by
 exact lknown11_any w
end Go.Proofs.YtjdnicacnaokdaaGreat
