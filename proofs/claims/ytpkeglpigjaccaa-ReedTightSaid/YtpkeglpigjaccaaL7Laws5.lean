/-
  The law ReedTight, as the frame has its arguments.
-/
import Derived.Test.YtpkeglpigjaccaaL7Laws2
import Derived.Test.YtpkeglpigjaccaaL7Tight
namespace Go.Proofs.Ytpkeglpigjaccaa
open Go.RowKit
theorem law_tight (a0 a1 a2 : Int) (w : World) (w0 : (Lit.int .u8 a0).wf = true) (w1 : (Lit.int .u8 a1).wf = true) (w2 : (Lit.int .u64 a2).wf = true) :
    Calls Try.prog 9 #[.int .u8 a0, .int .u8 a1, .int .u64 a2] w fun e w' => e = .returned (.bool true) ∧ Below w.heap.size w w' := by
  obtain ⟨n, rfl, hn⟩ := u8_nat w0
  obtain ⟨k, rfl, hk⟩ := u8_nat w1
  obtain ⟨bs, rfl, hbs⟩ := u64_wf w2
  exact ltight_any n k bs w hn hk hbs
end Go.Proofs.Ytpkeglpigjaccaa
