/-
  The law ReedNew, as the frame has its arguments.
-/
import Derived.Test.YtpkeglpigjaccaaGreatL7Laws2
import Derived.Test.YtpkeglpigjaccaaGreatL7New
namespace Go.Proofs.YtpkeglpigjaccaaGreat
open Go.RowKit
theorem law_new (u0 : Value) (l0 : List Nat) (a1 : Int) (w : World) (h0 : BytesRd w u0 l0) (w1 : (Lit.int .i64 a1).wf = true) :
    Calls Tryz.prog 13 #[u0, .int .i64 a1] w fun e w' => e = .returned (.bool true) ∧ Below w.heap.size w w' := by
  obtain ⟨A, rfl, hA⟩ := h0.toG
  exact lnew_any u0 A a1 w hA (i64_wf w1)
end Go.Proofs.YtpkeglpigjaccaaGreat
