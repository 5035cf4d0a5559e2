/-
  The law TransferTells, as the frame has its arguments.
-/
import Derived.Test.YtjdnicacnaokdaaGreatEncG
import Derived.Test.YtjdnicacnaokdaaGreatL11Tells
namespace Go.Proofs.YtjdnicacnaokdaaGreat
open Go.RowKit
theorem law_trtells (a0 a1:Int) (u2:Value) (l2:List Nat) (a3:Int) (a4:Bool) (a5 a6:Int) (w:World) (w0:(Lit.int .i64 a0).wf=true) (w1:(Lit.int .i64 a1).wf=true) (h2:BytesRd w u2 l2) (w3:(Lit.int .u64 a3).wf=true) (w5:(Lit.int .u8 a5).wf=true) (w6:(Lit.int .u8 a6).wf=true) :
  Calls Tryz.prog 6 #[.int .i64 a0,.int .i64 a1,u2,.int .u64 a3,.bool a4,.int .u8 a5,.int .u8 a6] w fun e w'=>e=.returned (.bool true)∧Below w.heap.size w w':=by
 obtain ⟨A,rfl,hA⟩:=h2.toG
 obtain ⟨bs,rfl,hbs⟩:=u64_wfS w3
 obtain ⟨s,rfl,hs⟩:=u8_natS w5
 obtain ⟨t,rfl,ht⟩:=u8_natS w6
 exact ltells11_any a0 a1 u2 A bs s t a4 w ⟨i64_wf w0,i64_wf w1⟩ hA hbs hs ht
end Go.Proofs.YtjdnicacnaokdaaGreat
