/-
  The law TransferMends, as the frame has its arguments.
-/
import Derived.Test.YtjdnicacnaokdaaGreatEncG
import Derived.Test.YtjdnicacnaokdaaGreatL11Mends
namespace Go.Proofs.YtjdnicacnaokdaaGreat
open Go.RowKit
theorem law_trmends (a0 a1:Int) (u2:Value) (l2:List Nat) (a3 a4:Int) (w:World) (w0:(Lit.int .i64 a0).wf=true) (w1:(Lit.int .i64 a1).wf=true) (h2:BytesRd w u2 l2) (w3:(Lit.int .u8 a3).wf=true) (w4:(Lit.int .u8 a4).wf=true) :
  Calls Tryz.prog 7 #[.int .i64 a0,.int .i64 a1,u2,.int .u8 a3,.int .u8 a4] w fun e w'=>e=.returned (.bool true)∧Below w.heap.size w w':=by
 obtain ⟨A,rfl,hA⟩:=h2.toG
 obtain ⟨s,rfl,hs⟩:=u8_natS w3
 obtain ⟨t,rfl,ht⟩:=u8_natS w4
 exact lmends11_any a0 a1 u2 A s t w ⟨i64_wf w0,i64_wf w1⟩ hA hs ht
end Go.Proofs.YtjdnicacnaokdaaGreat
