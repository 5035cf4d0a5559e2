/-
  The law WelchErased, as the frame has its arguments.
-/
import Derived.Test.YteeeocianofkfaaGreatWork8
import Derived.Test.YteeeocianofkfaaGreatL8Era
namespace Go.Proofs.YteeeocianofkfaaGreat
open Go.RowKit
theorem law_era (a0 a1 : Int) (u2 : Value) (l2 : List Nat) (u3 : Value) (l3 : List Nat) (u4 : Value) (l4 : List Nat) (a5 : Int) (w : World) (w0 : (Lit.int .u8 a0).wf = true) (w1 : (Lit.int .u8 a1).wf = true) (h2 : BytesRd w u2 l2) (h3 : BytesRd w u3 l3) (h4 : BytesRd w u4 l4) (w5 : (Lit.int .u64 a5).wf = true) :
    Calls Tryz.prog 5 #[.int .u8 a0, .int .u8 a1, u2, u3, u4, .int .u64 a5] w fun e w' => e = .returned (.bool true) ∧ Below w.heap.size w w' := by
  obtain ⟨n, rfl, hn⟩ := u8_nat w0
  obtain ⟨k, rfl, hk⟩ := u8_nat w1
  obtain ⟨A, rfl, hA⟩ := h2.toG
  obtain ⟨B, rfl, hB⟩ := h3.toG
  obtain ⟨C, rfl, hC⟩ := h4.toG
  obtain ⟨bs, rfl, hbs⟩ := u64_wf w5
  exact lera_any n k u2 u3 u4 A B C bs w hn hk hA hB hC hbs
end Go.Proofs.YteeeocianofkfaaGreat
