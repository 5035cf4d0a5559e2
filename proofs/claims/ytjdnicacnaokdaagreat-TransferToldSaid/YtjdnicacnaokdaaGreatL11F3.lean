/-
  The law TransferTold, as the frame has its arguments.
-/
import Derived.Test.YtjdnicacnaokdaaGreatEncG
import Derived.Test.YtjdnicacnaokdaaGreatL11Told
namespace Go.Proofs.YtjdnicacnaokdaaGreat
open Go.RowKit
theorem law_trtold (a0 a1 a2:Int) (u3:Value) (l3:List Sy) (u4:Value) (l4:List Sy) (w:World) (w0:(Lit.int .i64 a0).wf=true) (w1:(Lit.int .i64 a1).wf=true) (_:(Lit.int .i64 a2).wf=true) (h3:SyAll w u3 l3) (_:∀ s ∈ l3,-9223372036854775808≤s.node∧s.node≤9223372036854775807) (h4:SyAll w u4 l4) (_:∀ s ∈ l4,-9223372036854775808≤s.node∧s.node≤9223372036854775807) :
  Calls Tryz.prog 5 #[.int .i64 a0,.int .i64 a1,.int .i64 a2,u3,u4] w fun e w'=>e=.returned (.bool true)∧Below w.heap.size w w':=by
 exact ltold11_any a0 a1 a2 u3 u4 l3 l4 w ⟨i64_wf w0,i64_wf w1⟩ h3 h4
end Go.Proofs.YtjdnicacnaokdaaGreat
