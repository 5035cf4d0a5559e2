/-
  The law LocalAdds, as the frame has its arguments.
-/
import Derived.Test.YtbiaoohodjoojaaGreatL12L
import Derived.Test.YtbiaoohodjoojaaGreatL12Adds
namespace Go.Proofs.YtbiaoohodjoojaaGreat
open Go.RowKit
theorem law_ladds (a0 a1 a2:Int) (u3:Value) (l3:List Nat) (u4:Value) (l4:List Nat) (w:World) (w0:(Lit.int .i64 a0).wf=true) (w1:(Lit.int .i64 a1).wf=true) (w2:(Lit.int .i64 a2).wf=true) (h3:BytesRd w u3 l3) (h4:BytesRd w u4 l4) :
  Calls Tryz.prog 6 #[.int .i64 a0,.int .i64 a1,.int .i64 a2,u3,u4] w fun e w'=>e=.returned (.bool true)∧Below w.heap.size w w':=by
 obtain ⟨A,rfl,hA⟩:=h3.toG
 obtain ⟨B,rfl,hB⟩:=h4.toG
 exact ladds12_any a0 a1 a2 u3 u4 A B w ⟨i64_wf w0,i64_wf w1,i64_wf w2⟩ hA hB
end Go.Proofs.YtbiaoohodjoojaaGreat
