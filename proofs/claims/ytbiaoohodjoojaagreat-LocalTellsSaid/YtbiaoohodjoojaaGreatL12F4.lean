/-
  The law LocalTells, as the frame has its arguments.
-/
import Derived.Test.YtbiaoohodjoojaaGreatL12L
import Derived.Test.YtbiaoohodjoojaaGreatL12Tells
namespace Go.Proofs.YtbiaoohodjoojaaGreat
open Go.RowKit
theorem law_ltells (a0 a1 a2:Int) (u3:Value) (l3:List Nat) (a4:Int) (a5:Bool) (u6:Value) (l6:List Nat) (u7:Value) (l7:List Nat) (a8:Int) (w:World) (w0:(Lit.int .i64 a0).wf=true) (w1:(Lit.int .i64 a1).wf=true) (w2:(Lit.int .i64 a2).wf=true) (h3:BytesRd w u3 l3) (w4:(Lit.int .u64 a4).wf=true) (h6:BytesRd w u6 l6) (h7:BytesRd w u7 l7) (w8:(Lit.int .u8 a8).wf=true) :
  Calls Tryz.prog 8 #[.int .i64 a0,.int .i64 a1,.int .i64 a2,u3,.int .u64 a4,.bool a5,u6,u7,.int .u8 a8] w fun e w'=>e=.returned (.bool true)∧Below w.heap.size w w':=by
 obtain ⟨A,rfl,hA⟩:=h3.toG
 obtain ⟨bs,rfl,hbs⟩:=u64_wfS w4
 obtain ⟨B,rfl,hB⟩:=h6.toG
 obtain ⟨C,rfl,hC⟩:=h7.toG
 obtain ⟨t,rfl,ht⟩:=u8_natS w8
 exact ltells12_any a0 a1 a2 u3 u6 u7 A B C bs t a5 w ⟨i64_wf w0,i64_wf w1,i64_wf w2⟩ hA hB hC hbs ht
end Go.Proofs.YtbiaoohodjoojaaGreat
