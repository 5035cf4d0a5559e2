/-
  The cut-set bound, on numbers.
-/
import Derived.Test.YtpfhejodjpgliaaCfgPlain2
namespace Go.Proofs.Ytpfhejodjpgliaa
open Go.RowKit

/-- The lesser of al and d - i, from i = 0 up to k. -/
def cutSum (al d : Int) : Nat → Int
  | 0 => 0
  | k + 1 => cutSum al d k + min al (d - k)

theorem cutSum_bd {al d : Int} (ha : 0 ≤ al ∧ al ≤ 255) (hd : 0 ≤ d ∧ d ≤ 255) : ∀ k : Nat, k ≤ 255 → -255 * k ≤ cutSum al d k ∧ cutSum al d k ≤ 255 * k
  | 0, _ => by simp [cutSum]
  | k + 1, h => by
    have := cutSum_bd ha hd k (by omega)
    simp only [cutSum]
    omega

theorem cutSum_const {al d : Int} : ∀ k : Nat, (∀ i : Nat, i < k → al ≤ d - i) → cutSum al d k = k * al
  | 0, _ => by simp [cutSum]
  | k + 1, h => by
    have h1 := cutSum_const k (fun i hi => h i (by omega))
    have h2 := h k (by omega)
    simp only [cutSum, h1]
    rw [Int.min_eq_left h2, Int.natCast_add, Int.add_mul]
    simp

theorem tri_even (k : Nat) : (k : Int) * (k - 1) % 2 = 0 := by
  induction k with
  | zero => simp
  | succ k ih =>
    have : ((k + 1 : Nat) : Int) * ((k + 1 : Nat) - 1) = k * (k - 1) + 2 * k := by
      simp only [Int.natCast_add]
      rw [show ((k : Int) + (1 : Nat) - 1) = k by omega, Int.add_mul, Int.mul_sub]
      simp
      omega
    rw [this]
    omega

theorem cutSum_tri {d : Int} : ∀ k : Nat, cutSum d d k = k * d - (k : Int) * (k - 1) / 2
  | 0 => by simp [cutSum]
  | k + 1 => by
    have h1 := cutSum_tri (d := d) k
    have he := tri_even k
    have he1 := tri_even (k + 1)
    simp only [cutSum, h1]
    rw [Int.min_eq_right (by omega)]
    have h2 : ((k + 1 : Nat) : Int) * ((k + 1 : Nat) - 1) = k * (k - 1) + 2 * k := by
      simp only [Int.natCast_add]
      rw [show ((k : Int) + (1 : Nat) - 1) = k by omega, Int.add_mul, Int.mul_sub]
      simp
      omega
    have h3 : ((k + 1 : Nat) : Int) * d = k * d + d := by
      rw [Int.natCast_add, Int.add_mul]
      simp
    rw [h2, h3]
    omega

/-- All that the law asks of a code that may be. -/
theorem cuts_plain {c n k d r t q : Int} {s : Sh} (h : checkF c n k d r t q = some s) :
    inRange n k d r t ∧ (1 ≤ s.al ∧ s.al ≤ 255) ∧ (1 ≤ s.b ∧ s.b ≤ s.te * s.al) ∧ (1 ≤ s.te ∧ s.te ≤ 510) ∧ 1 ≤ s.as_ ∧ s.as_ < n ∧ s.te + 2 * t ≤ q ∧ q ≤ n ∧ s.to = 1 ∧ ((c = 2 ∨ c = 3) → cutSum s.al d k.toNat = s.b) := by
  unfold checkF at h
  split at h
  · rename_i hc
    obtain ⟨hin, hz, h1, h2, h3, h4⟩ := hc
    have hin' := hin
    obtain ⟨a1, a2, a3, a4, a5, a6, a7, a8, a9, a10⟩ := hin
    cases h
    rcases shapeF_ok (c := c) ⟨a1, a2⟩ ⟨a3, a4⟩ ⟨a5, a6⟩ ⟨a7, a8⟩ ⟨a9, a10⟩ with hz' | ⟨b1, b2, b3, b4, b5, b6, b7⟩
    · exact absurd hz' hz
    · refine ⟨hin', ⟨b1, b2⟩, ?_, ⟨b3, b4⟩, b5, h3, h1, h2, b7, ?_⟩
      · clear b1 b2 b3 b4 b5 b6 b7 h1 h2 h3 h4
        revert hz
        unfold shapeF
        split
        · intro hz; exact absurd rfl hz
        rename_i hk1
        split
        · split
          · intro _; simp only [shReed]; omega
          · intro hz; exact absurd rfl hz
        split
        · split
          · rename_i h; simp only [okMsr, Bool.and_eq_true, decide_eq_true_eq] at h
            intro _; simp only [shMsr]
            have := Int.mul_le_mul (show (1 : Int) ≤ k by omega) (show 1 ≤ d - k + 1 by omega) (by omega) (by omega)
            omega
          · intro hz; exact absurd rfl hz
        split
        · split
          · rename_i h; simp only [okMbr, Bool.and_eq_true, decide_eq_true_eq] at h
            intro _; simp only [shMbr]
            have h5 := Int.mul_le_mul_of_nonneg_left (show k ≤ d by omega) (show 0 ≤ k by omega)
            have h6 : 0 ≤ k * (k - 1) := Int.mul_nonneg (by omega) (by omega)
            have h7 := Int.mul_le_mul (show (1 : Int) ≤ k by omega) (show (1 : Int) ≤ k by omega) (by omega) (by omega)
            rw [Int.mul_sub] at h6 ⊢
            omega
          · intro hz; exact absurd rfl hz
        split
        · split
          · rename_i h; simp only [okTr, Bool.and_eq_true, decide_eq_true_eq] at h
            intro _; simp only [shTr]
            have h5 := Int.mul_le_mul_of_nonneg_left (show k ≤ n - 1 by omega) (show 0 ≤ k by omega)
            have h6 : 0 ≤ k * (k - 1) := Int.mul_nonneg (by omega) (by omega)
            have h7 := Int.mul_le_mul (show (1 : Int) ≤ k by omega) (show (1 : Int) ≤ k by omega) (by omega) (by omega)
            rw [Int.mul_sub k k 1] at h6 ⊢
            omega
          · intro hz; exact absurd rfl hz
        split
        · split
          · rename_i h; simp only [okLoc, okLoc0, Bool.and_eq_true, decide_eq_true_eq] at h
            intro _; simp only [shLoc]
            have h2 : 1 ≤ k / r := by
              have h4 := Int.emod_add_mul_ediv k r
              rw [h.1.2] at h4
              rcases Int.lt_or_le (k / r) 1 with h5 | h5
              · have h1 : 0 ≤ k / r := Int.ediv_nonneg (by omega) (by omega)
                have h6 : k / r = 0 := by omega
                rw [h6] at h4
                omega
              · exact h5
            omega
          · intro hz; exact absurd rfl hz
        · intro hz; exact absurd rfl hz
      · intro hc
        clear b1 b2 b3 b4 b5 b6 b7 h1 h2 h3 h4
        revert hz
        unfold shapeF
        split
        · intro hz; exact absurd rfl hz
        rename_i hk1
        rw [if_neg (by omega)]
        split
        · split
          · rename_i h; simp only [okMsr, Bool.and_eq_true, decide_eq_true_eq] at h
            intro _; simp only [shMsr]
            rw [cutSum_const _ (by intro i hi; omega)]
            congr 1
            omega
          · intro hz; exact absurd rfl hz
        · rw [if_pos (by omega)]
          split
          · intro _; simp only [shMbr]
            rw [cutSum_tri]
            rw [show ((k.toNat : Nat) : Int) = k by omega]
          · intro hz; exact absurd rfl hz
  · cases h
end Go.Proofs.Ytpfhejodjpgliaa
