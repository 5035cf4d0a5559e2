/-
  The law LiarsFair, as the frame has its arguments.
-/
import Derived.Test.YtjlehnmcfimnfaaLiFair
namespace Go.Proofs.Ytjlehnmcfimnfaa
open Go.RowKit
theorem u16_wf {x : Int} (h : (Lit.int .u16 x).wf = true) : 0 ≤ x ∧ x < 65536 := by
  have h1 : IntKind.u16.min = 0 := rfl
  have h2 : IntKind.u16.max = 65535 := rfl
  simp only [Lit.wf, Bool.and_eq_true, decide_eq_true_eq] at h
  omega
theorem law_fair (a0 : Int) (u1 : Value) (l1 : List Nat) (a2 : Int) (u3 : Value) (l3 : List Nat) (a4 : Int) (w : World) (w0 : (Lit.int .u8 a0).wf = true) (h1 : BytesRd w u1 l1) (w2 : (Lit.int .u16 a2).wf = true) (h3 : BytesRd w u3 l3) (w4 : (Lit.int .u8 a4).wf = true) :
    Calls Try.prog 3 #[.int .u8 a0, u1, .int .u16 a2, u3, .int .u8 a4] w fun e w' => e = .returned (.bool true) ∧ Below w.heap.size w w' :=
  fair_any a0 u1 l1 a2 u3 l3 a4 w (byte_wf w0) h1 (u16_wf w2) h3 (byte_wf w4)
end Go.Proofs.Ytjlehnmcfimnfaa
