/-
  The law TransferEncode, as the frame has its arguments.
-/
import Derived.Test.YtjdnicacnaokdaaGreatEncG
namespace Go.Proofs.YtjdnicacnaokdaaGreat
open Go.RowKit
theorem law_trenc (a0 a1:Int) (u2:Value) (l2:List Nat) (a3 a4:Int) (u5:Value) (l5:List Nat) (w:World) (w0:(Lit.int .i64 a0).wf=true) (w1:(Lit.int .i64 a1).wf=true) (h2:BytesRd w u2 l2) (_:(Lit.int .i64 a3).wf=true) (_:(Lit.int .i64 a4).wf=true) (h5:BytesRd w u5 l5) :
  Calls Tryz.prog 4 #[.int .i64 a0,.int .i64 a1,u2,.int .i64 a3,.int .i64 a4,u5] w fun e w'=>e=.returned (.bool true)∧Below w.heap.size w w':=by
 obtain ⟨A,rfl,hA⟩:=h2.toG
 obtain ⟨B,rfl,hB⟩:=h5.toG
 exact lenc11_any a0 a1 a3 a4 u2 u5 A B w ⟨i64_wf w0,i64_wf w1⟩ hA hB
end Go.Proofs.YtjdnicacnaokdaaGreat
