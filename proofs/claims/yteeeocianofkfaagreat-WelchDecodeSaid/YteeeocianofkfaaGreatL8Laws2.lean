/-
  The law WelchDecode, as the frame has its arguments.
-/
import Derived.Test.YteeeocianofkfaaGreatWork8
import Derived.Test.YteeeocianofkfaaGreatL8Dec
namespace Go.Proofs.YteeeocianofkfaaGreat
open Go.RowKit
theorem law_dec (u0 : Value) (l0 : List Nat) (a1 : Int) (u2 : Value) (l2 : List Int) (u3 : Value) (l3 : List Nat) (a4 : Int) {n2 : Nat} (w : World) (h0 : BytesRd w u0 l0) (w1 : (Lit.int .i64 a1).wf = true) (h2 : IRd w u2 l2) (_ : l2.length = n2) (h3 : BytesRd w u3 l3) (w4 : (Lit.int .i64 a4).wf = true) :
    Calls Tryz.prog 7 #[u0, .int .i64 a1, u2, u3, .int .i64 a4] w fun e w' => e = .returned (.bool true) ∧ Below w.heap.size w w' := by
  obtain ⟨A, rfl, hA⟩ := h0.toG
  obtain ⟨B, rfl, hB⟩ := h3.toG
  exact ldec_any u0 u2 u3 A B l2 a1 a4 w hA h2 hB (i64_wf w1) (i64_wf w4)
end Go.Proofs.YteeeocianofkfaaGreat
