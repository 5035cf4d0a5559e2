/-
  The law LocalNew, as the frame has its arguments.
-/
import Derived.Test.YtbiaoohodjoojaaGreatL12L
import Derived.Test.YtbiaoohodjoojaaGreatL12New
namespace Go.Proofs.YtbiaoohodjoojaaGreat
open Go.RowKit
theorem law_lnew (a0 a1 a2 a3:Int) (w:World) (w0:(Lit.int .i64 a0).wf=true) (w1:(Lit.int .i64 a1).wf=true) (w2:(Lit.int .i64 a2).wf=true) (w3:(Lit.int .i64 a3).wf=true) :
  Calls Tryz.prog 3 #[.int .i64 a0,.int .i64 a1,.int .i64 a2,.int .i64 a3] w fun e w'=>e=.returned (.bool true)∧Below w.heap.size w w' :=
 lnew12_any a0 a1 a2 a3 w ⟨i64_wf w0,i64_wf w1,i64_wf w2⟩ (i64_wf w3)
end Go.Proofs.YtbiaoohodjoojaaGreat
