/-
  The law TransferNew, as the frame has its arguments.
-/
import Derived.Test.YtjdnicacnaokdaaGreatL11New
import Derived.Test.YtjdnicacnaokdaaGreatSyG
namespace Go.Proofs.YtjdnicacnaokdaaGreat
open Go.RowKit
theorem law_trnew (a0 a1:Int) (w:World) (w0:(Lit.int .i64 a0).wf=true) (w1:(Lit.int .i64 a1).wf=true) :
  Calls Tryz.prog 3 #[.int .i64 a0,.int .i64 a1] w fun e w'=>e=.returned (.bool true)∧Below w.heap.size w w' :=
 ltrnew_any a0 a1 w (i64_wf w0) (i64_wf w1)
end Go.Proofs.YtjdnicacnaokdaaGreat
