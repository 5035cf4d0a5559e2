/-
  The law LocalTold, as the frame has its arguments.
-/
import Derived.Test.YtbiaoohodjoojaaGreatL12L
import Derived.Test.YtbiaoohodjoojaaGreatL12Told
namespace Go.Proofs.YtbiaoohodjoojaaGreat
open Go.RowKit
theorem law_ltold (a0 a1 a2 a3:Int) (u4:Value) (l4:List Sy) (a5:Int) (w:World) (w0:(Lit.int .i64 a0).wf=true) (w1:(Lit.int .i64 a1).wf=true) (w2:(Lit.int .i64 a2).wf=true) (_:(Lit.int .i64 a3).wf=true) (h4:SyAll w u4 l4) (_:∀ s ∈ l4,-9223372036854775808≤s.node∧s.node≤9223372036854775807) (w5:(Lit.int .i64 a5).wf=true) :
  Calls Tryz.prog 7 #[.int .i64 a0,.int .i64 a1,.int .i64 a2,.int .i64 a3,u4,.int .i64 a5] w fun e w'=>e=.returned (.bool true)∧Below w.heap.size w w' :=
 ltold12_any a0 a1 a2 a3 a5 u4 l4 w ⟨i64_wf w0,i64_wf w1,i64_wf w2⟩ (i64_wf w5) h4
end Go.Proofs.YtbiaoohodjoojaaGreat
