/-
  A liar less, an acknowledgement more, a node more: on numbers.
-/
import Derived.Test.YtpfhejodjpgliaaCfgPlain2
namespace Go.Proofs.Ytpfhejodjpgliaa
open Go.RowKit

theorem checkF_some {c n k d r t q : Int} {s : Sh} (h : checkF c n k d r t q = some s) : inRange n k d r t ∧ fits s n t q ∧ s = shapeF c n k d r t := by
  unfold checkF at h
  split at h
  · rename_i hc
    cases h
    exact ⟨hc.1, hc.2, rfl⟩
  · cases h

theorem less_w {c n k d r t q : Int} {s : Sh} (h : checkF c n k d r t q = some s) (hq : q < n) : checkF c n k d r t (q + 1) = some s := by
  obtain ⟨h1, h2, rfl⟩ := checkF_some h
  unfold checkF
  unfold fits at *
  rw [if_pos ⟨h1, h2.1, by omega, by omega, h2.2.2.2.1, h2.2.2.2.2⟩]

theorem shapeF_one (n k d r t : Int) : shapeF 1 n k d r t = if k < 1 then .zero else if okReed n k d r = true then shReed k t else .zero := by simp [shapeF]
theorem shapeF_three (n k d r t : Int) : shapeF 3 n k d r t = if k < 1 then .zero else if okMbr n k d r = true then shMbr k d t else .zero := by simp [shapeF]

theorem less_n {c n k d r t q : Int} {s : Sh} (h : checkF c n k d r t q = some s) (hn : n < 255) (hc : c = 1 ∨ c = 3) : checkF c (n + 1) k d r t q = some s := by
  obtain ⟨h1, h2, rfl⟩ := checkF_some h
  unfold inRange at h1
  have hz := h2.1
  have he : shapeF c (n + 1) k d r t = shapeF c n k d r t := by
    revert hz
    rcases hc with rfl | rfl
    · rw [shapeF_one, shapeF_one]
      intro hz
      by_cases hk : k < 1
      · rw [if_pos hk, if_pos hk]
      · rw [if_neg hk] at hz
        rw [if_neg hk, if_neg hk]
        by_cases ho : okReed n k d r = true
        · have ho2 : okReed (n + 1) k d r = true := by
            simp only [okReed, Bool.and_eq_true, decide_eq_true_eq] at ho ⊢
            omega
          rw [if_pos ho, if_pos ho2]
        · rw [if_neg ho] at hz
          exact absurd rfl hz
    · rw [shapeF_three, shapeF_three]
      intro hz
      by_cases hk : k < 1
      · rw [if_pos hk, if_pos hk]
      · rw [if_neg hk] at hz
        rw [if_neg hk, if_neg hk]
        by_cases ho : okMbr n k d r = true
        · have ho2 : okMbr (n + 1) k d r = true := by
            simp only [okMbr, Bool.and_eq_true, decide_eq_true_eq] at ho ⊢
            omega
          rw [if_pos ho, if_pos ho2]
        · rw [if_neg ho] at hz
          exact absurd rfl hz
  unfold checkF
  rw [he]
  generalize shapeF c n k d r t = s at *
  unfold fits at *
  rw [if_pos ⟨by unfold inRange; omega, h2.1, h2.2.1, by omega, by omega, by omega⟩]

/-- With a liar less: the same but for those asked, who are no more. -/
theorem less_t {c n k d r t q : Int} {s : Sh} (h : checkF c n k d r t q = some s) (ht : 0 < t) :
    ∃ s', checkF c n k d r (t - 1) q = some s' ∧ s'.as_ ≤ s.as_ ∧ s'.te = s.te ∧ s'.b = s.b ∧ s'.al = s.al := by
  obtain ⟨h1, h2, rfl⟩ := checkF_some h
  have hr := h1
  unfold inRange at h1
  have hz := h2.1
  have hk := shapeF_ok (c := c) (n := n) (k := k) (d := d) (r := r) (t := t) (by omega) (by omega) (by omega) (by omega) (by omega)
  have key : (shapeF c n k d r (t - 1)).as_ ≤ (shapeF c n k d r t).as_ ∧ (shapeF c n k d r (t - 1)).te = (shapeF c n k d r t).te ∧ (shapeF c n k d r (t - 1)).b = (shapeF c n k d r t).b ∧ (shapeF c n k d r (t - 1)).al = (shapeF c n k d r t).al ∧ shapeF c n k d r (t - 1) ≠ Sh.zero := by
    have hz2 := hz
    unfold fits at h2
    revert hz h2 hk
    unfold shapeF
    split
    · intro h2 hz hk; exact absurd rfl hz
    split
    · split
      · intro _ _ _; refine ⟨by simp only [shReed]; omega, rfl, rfl, rfl, by intro he; have := congrArg Sh.al he; simp [shReed, Sh.zero] at this⟩
      · intro h2 hz hk; exact absurd rfl hz
    split
    · split
      · rename_i h; simp only [okMsr, Bool.and_eq_true, decide_eq_true_eq] at h
        intro _ _ _; refine ⟨by simp only [shMsr]; omega, rfl, rfl, rfl, by intro he; have := congrArg Sh.to he; simp [shMsr, Sh.zero] at this⟩
      · intro h2 hz hk; exact absurd rfl hz
    split
    · split
      · intro _ _ _; refine ⟨by simp only [shMbr]; omega, rfl, rfl, rfl, by intro he; have := congrArg Sh.to he; simp [shMbr, Sh.zero] at this⟩
      · intro h2 hz hk; exact absurd rfl hz
    split
    · split
      · rename_i h; simp only [okTr, Bool.and_eq_true, decide_eq_true_eq] at h
        omega
      · intro h2 hz hk; exact absurd rfl hz
    split
    · split
      · rename_i h; simp only [okLoc, okLoc0, Bool.and_eq_true, decide_eq_true_eq] at h
        have h5 : 1 ≤ k / r := by
          have h4 := Int.emod_add_mul_ediv k r
          rw [h.1.2] at h4
          rcases Int.lt_or_le (k / r) 1 with h5 | h5
          · have h6 : 0 ≤ k / r := Int.ediv_nonneg (by omega) (by omega)
            have h7 : k / r = 0 := by omega
            rw [h7] at h4
            omega
          · exact h5
        have h6 : r ≤ k := by
          have h4 := Int.emod_add_mul_ediv k r
          rw [h.1.2] at h4
          have h7 := Int.mul_le_mul_of_nonneg_left h5 (show 0 ≤ r by omega)
          omega
        intro _ _ _; refine ⟨by simp only [shLoc]; (repeat' split) <;> omega, rfl, rfl, rfl, by intro he; have := congrArg Sh.to he; simp [shLoc, Sh.zero] at this⟩
      · intro h2 hz hk; exact absurd rfl hz
    · intro h2 hz hk; exact absurd rfl hz
  refine ⟨shapeF c n k d r (t - 1), ?_, key.1, key.2.1, key.2.2.1, key.2.2.2.1⟩
  unfold checkF
  have hin : inRange n k d r (t - 1) := by unfold inRange; omega
  unfold fits at *
  rw [if_pos ⟨hin, key.2.2.2.2, by omega, by omega, by omega, by omega⟩]
end Go.Proofs.Ytpfhejodjpgliaa
