/-
  The law ReedApart, as the frame has its arguments.
-/
import Derived.Test.YtpkeglpigjaccaaGreatL7Apart
namespace Go.Proofs.YtpkeglpigjaccaaGreat
open Go.RowKit
theorem u8_nat {a : Int} (h : (Lit.int .u8 a).wf = true) : ∃ n : Nat, a = (n : Int) ∧ n < 256 := ⟨a.toNat, by have := byte_wf h; omega, by have := byte_wf h; omega⟩
theorem law_apart (a0 a1 : Int) (u2 : Value) (l2 : List Nat) (u3 : Value) (l3 : List Nat) (w : World) (w0 : (Lit.int .u8 a0).wf = true) (w1 : (Lit.int .u8 a1).wf = true) (h2 : BytesRd w u2 l2) (h3 : BytesRd w u3 l3) :
    Calls Tryz.prog 10 #[.int .u8 a0, .int .u8 a1, u2, u3] w fun e w' => e = .returned (.bool true) ∧ Below w.heap.size w w' := by
  obtain ⟨n, rfl, hn⟩ := u8_nat w0
  obtain ⟨k, rfl, hk⟩ := u8_nat w1
  obtain ⟨A, rfl, hA⟩ := h2.toG
  obtain ⟨B, rfl, hB⟩ := h3.toG
  exact apart_any n k u2 u3 A B w hn hk hA hB
end Go.Proofs.YtpkeglpigjaccaaGreat
