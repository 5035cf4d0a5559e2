/-
  The law ReedParts, as the frame has its arguments.
-/
import Derived.Test.YtpkeglpigjaccaaL7Laws2
import Derived.Test.YtpkeglpigjaccaaL7Parts
namespace Go.Proofs.Ytpkeglpigjaccaa
open Go.RowKit
theorem law_parts (a0 a1 : Int) (u2 : Value) (l2 : List Nat) (a3 : Int) (w : World) (w0 : (Lit.int .u8 a0).wf = true) (w1 : (Lit.int .u8 a1).wf = true) (h2 : BytesRd w u2 l2) (w3 : (Lit.int .u64 a3).wf = true) :
    Calls Try.prog 7 #[.int .u8 a0, .int .u8 a1, u2, .int .u64 a3] w fun e w' => e = .returned (.bool true) ∧ Below w.heap.size w w' := by
  obtain ⟨n, rfl, hn⟩ := u8_nat w0
  obtain ⟨k, rfl, hk⟩ := u8_nat w1
  obtain ⟨A, rfl, hA⟩ := h2.toG
  obtain ⟨bs, rfl, hbs⟩ := u64_wf w3
  exact lparts_any n k u2 A bs w hn hk hA hbs
end Go.Proofs.Ytpkeglpigjaccaa
