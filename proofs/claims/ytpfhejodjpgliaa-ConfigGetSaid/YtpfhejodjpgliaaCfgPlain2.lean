/-
  What a code amounts to: within which bounds.
-/
import Derived.Test.YtpfhejodjpgliaaCfgPlain
namespace Go.Proofs.Ytpfhejodjpgliaa
open Go.RowKit

/-- What a kind amounts to, where it is something: within these bounds. -/
theorem shapeF_ok {c n k d r t : Int} (hn : 1 ≤ n ∧ n ≤ 255) (hk : 0 ≤ k ∧ k ≤ 255) (hd : 0 ≤ d ∧ d ≤ 255) (hr : 0 ≤ r ∧ r ≤ 255) (ht : 0 ≤ t ∧ t ≤ 127) :
    shapeF c n k d r t = .zero ∨ (1 ≤ (shapeF c n k d r t).al ∧ (shapeF c n k d r t).al ≤ 255 ∧ 1 ≤ (shapeF c n k d r t).te ∧ (shapeF c n k d r t).te ≤ 510 ∧ 1 ≤ (shapeF c n k d r t).as_ ∧ (shapeF c n k d r t).as_ ≤ 1020 ∧ (shapeF c n k d r t).to = 1) := by
  unfold shapeF
  split
  · exact .inl rfl
  rename_i hk1
  split
  · split
    · rename_i h; simp only [okReed, Bool.and_eq_true, decide_eq_true_eq] at h
      right; refine ⟨?_, ?_, ?_, ?_, ?_, ?_, ?_⟩ <;> simp only [shReed] <;> omega
    · exact .inl rfl
  split
  · split
    · rename_i h; simp only [okMsr, Bool.and_eq_true, decide_eq_true_eq] at h
      right; refine ⟨?_, ?_, ?_, ?_, ?_, ?_, ?_⟩ <;> simp only [shMsr] <;> omega
    · exact .inl rfl
  split
  · split
    · rename_i h; simp only [okMbr, Bool.and_eq_true, decide_eq_true_eq] at h
      right; refine ⟨?_, ?_, ?_, ?_, ?_, ?_, ?_⟩ <;> simp only [shMbr] <;> omega
    · exact .inl rfl
  split
  · split
    · rename_i h; simp only [okTr, Bool.and_eq_true, decide_eq_true_eq] at h
      right; refine ⟨?_, ?_, ?_, ?_, ?_, ?_, ?_⟩ <;> simp only [shTr] <;> omega
    · exact .inl rfl
  split
  · split
    · rename_i h; simp only [okLoc, okLoc0, Bool.and_eq_true, decide_eq_true_eq] at h
      have h1 : 0 ≤ k / r := Int.ediv_nonneg (by omega) (by omega)
      have h2 : k / r ≤ k := Int.ediv_le_self _ (by omega)
      have h3 : 1 ≤ k / r := by
        have h4 := Int.emod_add_mul_ediv k r
        rw [h.1.2] at h4
        rcases Int.lt_or_le (k / r) 1 with h5 | h5
        · have h6 : k / r = 0 := by omega
          rw [h6] at h4
          omega
        · exact h5
      right; refine ⟨?_, ?_, ?_, ?_, ?_, ?_, ?_⟩ <;> simp only [shLoc] <;> first | omega | (split <;> omega)
    · exact .inl rfl
  · exact .inl rfl

end Go.Proofs.Ytpfhejodjpgliaa
