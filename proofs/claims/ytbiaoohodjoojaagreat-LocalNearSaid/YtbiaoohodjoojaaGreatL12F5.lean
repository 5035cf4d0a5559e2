/-
  The law LocalNear, as the frame has its arguments.
-/
import Derived.Test.YtbiaoohodjoojaaGreatL12L
import Derived.Test.YtbiaoohodjoojaaGreatL12N
namespace Go.Proofs.YtbiaoohodjoojaaGreat
open Go.RowKit
theorem law_lnear (a0 a1 a2:Int) (u3:Value) (l3:List Nat) (a4 a5:Int) (w:World) (w0:(Lit.int .i64 a0).wf=true) (w1:(Lit.int .i64 a1).wf=true) (w2:(Lit.int .i64 a2).wf=true) (h3:BytesRd w u3 l3) (w4:(Lit.int .u8 a4).wf=true) (w5:(Lit.int .u8 a5).wf=true) :
  Calls Tryz.prog 5 #[.int .i64 a0,.int .i64 a1,.int .i64 a2,u3,.int .u8 a4,.int .u8 a5] w fun e w'=>e=.returned (.bool true)∧Below w.heap.size w w':=by
 obtain ⟨A,rfl,hA⟩:=h3.toG
 obtain ⟨t,rfl,ht⟩:=u8_natS w4
 obtain ⟨b,rfl,hb⟩:=u8_natS w5
 exact lnear12_any a0 a1 a2 u3 A t b w ⟨i64_wf w0,i64_wf w1,i64_wf w2⟩ hA ht hb
end Go.Proofs.YtbiaoohodjoojaaGreat
