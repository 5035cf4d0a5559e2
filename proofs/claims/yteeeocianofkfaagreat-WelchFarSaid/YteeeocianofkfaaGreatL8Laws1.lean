/-
  The law WelchFar, as the frame has its arguments.
-/
import Derived.Test.YteeeocianofkfaaGreatL8Args
import Derived.Test.YteeeocianofkfaaGreatL8Far
namespace Go.Proofs.YteeeocianofkfaaGreat
open Go.RowKit
theorem law_far (u0 : Value) (l0 : List Nat) (u1 : Value) (l1 : List Nat) (u2 : Value) (l2 : List Nat) (w : World) (h0 : BytesRd w u0 l0) (h1 : BytesRd w u1 l1) (h2 : BytesRd w u2 l2) :
    Calls Tryz.prog 3 #[u0, u1, u2] w fun e w' => e = .returned (.bool true) ∧ Below w.heap.size w w' := by
  obtain ⟨A, rfl, hA⟩ := h0.toG
  obtain ⟨B, rfl, hB⟩ := h1.toG
  obtain ⟨C, rfl, hC⟩ := h2.toG
  exact lfar_any u0 u1 u2 A B C w hA hB hC
end Go.Proofs.YteeeocianofkfaaGreat
