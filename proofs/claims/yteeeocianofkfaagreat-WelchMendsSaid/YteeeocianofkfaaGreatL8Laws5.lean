/-
  The law WelchMends, as the frame has its arguments.
-/
import Derived.Test.YteeeocianofkfaaGreatWork8
import Derived.Test.YteeeocianofkfaaGreatL8Mends
namespace Go.Proofs.YteeeocianofkfaaGreat
open Go.RowKit
theorem law_mends (a0 a1 : Int) (u2 : Value) (l2 : List Nat) (a3 : Int) (u4 : Value) (l4 : List Nat) (u5 : Value) (l5 : List Nat) (w : World) (w0 : (Lit.int .u8 a0).wf = true) (w1 : (Lit.int .u8 a1).wf = true) (h2 : BytesRd w u2 l2) (w3 : (Lit.int .u64 a3).wf = true) (h4 : BytesRd w u4 l4) (h5 : BytesRd w u5 l5) :
    Calls Tryz.prog 8 #[.int .u8 a0, .int .u8 a1, u2, .int .u64 a3, u4, u5] w fun e w' => e = .returned (.bool true) ∧ Below w.heap.size w w' := by
  obtain ⟨n, rfl, hn⟩ := u8_nat w0
  obtain ⟨k, rfl, hk⟩ := u8_nat w1
  obtain ⟨A, rfl, hA⟩ := h2.toG
  obtain ⟨bs, rfl, hbs⟩ := u64_wf w3
  obtain ⟨B, rfl, hB⟩ := h4.toG
  obtain ⟨C, rfl, hC⟩ := h5.toG
  exact lmends_any n k u2 u4 u5 A B C bs w hn hk hA hbs hB hC
end Go.Proofs.YteeeocianofkfaaGreat
