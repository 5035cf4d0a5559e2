/-
  The law WelchTurned, as the frame has its arguments.
-/
import Derived.Test.YteeeocianofkfaaGreatWork8
import Derived.Test.YteeeocianofkfaaGreatL8Turn
namespace Go.Proofs.YteeeocianofkfaaGreat
open Go.RowKit
theorem law_turn (a0 a1 : Int) (u2 : Value) (l2 : List Int) (u3 : Value) (l3 : List Nat) (a4 a5 : Int) {n2 : Nat} (w : World) (w0 : (Lit.int .u8 a0).wf = true) (w1 : (Lit.int .u8 a1).wf = true) (h2 : IRd w u2 l2) (_ : l2.length = n2) (h3 : BytesRd w u3 l3) (w4 : (Lit.int .u8 a4).wf = true) (_ : (Lit.int .i64 a5).wf = true) :
    Calls Tryz.prog 6 #[.int .u8 a0, .int .u8 a1, u2, u3, .int .u8 a4, .int .i64 a5] w fun e w' => e = .returned (.bool true) ∧ Below w.heap.size w w' := by
  obtain ⟨n, rfl, hn⟩ := u8_nat w0
  obtain ⟨k, rfl, hk⟩ := u8_nat w1
  obtain ⟨t, rfl, ht⟩ := u8_nat w4
  obtain ⟨B, rfl, hB⟩ := h3.toG
  exact lturn_any n k t a5 u2 u3 B l2 w hn hk ht h2 hB
end Go.Proofs.YteeeocianofkfaaGreat
