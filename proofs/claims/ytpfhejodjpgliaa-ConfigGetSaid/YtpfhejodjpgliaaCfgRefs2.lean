/-
  The greatest common divisor by trial; the points of spread; the reference's minimum-storage codes.
-/
import Derived.Test.YtpfhejodjpgliaaCfgRefs
namespace Go.Proofs.Ytpfhejodjpgliaa
open Go.RowKit
set_option linter.unusedSimpArgs false
set_option linter.unusedVariables false

/-- The greatest of the numbers up to k that divides both; 1: none. -/
def comN (a b : Nat) : Nat → Nat
  | 0 => 1
  | k + 1 => if a % (k + 1) = 0 ∧ b % (k + 1) = 0 then k + 1 else comN a b k

theorem comN_gcd {a b : Nat} (ha : 0 < a) (hb : 0 < b) : ∀ k, Nat.gcd a b ≤ k → comN a b k = Nat.gcd a b
  | 0, h => by
    have := Nat.gcd_pos_of_pos_left b ha
    omega
  | k + 1, h => by
    simp only [comN]
    by_cases hd : a % (k + 1) = 0 ∧ b % (k + 1) = 0
    · rw [if_pos hd]
      have h1 : k + 1 ∣ Nat.gcd a b := Nat.dvd_gcd (Nat.dvd_of_mod_eq_zero hd.1) (Nat.dvd_of_mod_eq_zero hd.2)
      have h2 := Nat.le_of_dvd (Nat.gcd_pos_of_pos_left b ha) h1
      omega
    · rw [if_neg hd]
      refine comN_gcd ha hb k ?_
      rcases Nat.lt_or_ge k (Nat.gcd a b) with hlt | hge
      · exfalso
        have he : Nat.gcd a b = k + 1 := by omega
        refine hd ⟨?_, ?_⟩
        · rw [← he]; exact Nat.mod_eq_zero_of_dvd (Nat.gcd_dvd_left a b)
        · rw [← he]; exact Nat.mod_eq_zero_of_dvd (Nat.gcd_dvd_right a b)
      · exact hge
theorem comN_le (a b k : Nat) : comN a b k ≤ k + 1 := by
  induction k with
  | zero => simp [comN]
  | succ k ih =>
    simp only [comN]
    split <;> omega

set_option maxHeartbeats 800000 in
theorem refCommon (a b : Nat) (w : World) (ha : 0 < a) (hb : 0 < b) (ha2 : a ≤ 255) (hb2 : b ≤ 255) :
    Calls Try.prog 36 #[.int .i64 a, .int .i64 b] w fun e w' => e = .returned (.int .i64 (Nat.gcd a b : Nat)) ∧ w = w' := by
  have hfin : ∀ k, min a b ≤ k → comN a b k = Nat.gcd a b := fun k hk => comN_gcd ha hb k (by
    have h1 := Nat.le_of_dvd ha (Nat.gcd_dvd_left a b)
    have h2 := Nat.le_of_dvd hb (Nat.gcd_dvd_right a b)
    omega)
  have HF := Lib.hid hfin
  clear hfin
  go_enter Try.func36, Try.ntmps36
  go_wp2
  go_loop [5, 6] (fun c i => ∃ k : Nat, k ≤ 255 ∧ i = .int .i64 ((k : Int) + 1) ∧ c = .int .i64 (comN a b k : Nat)) (fun _ i => 300 - (intOf i).toNat)
  case atStart => exact ⟨0, by omega, by simp, rfl⟩
  case round =>
    obtain ⟨k, hk, rfl, rfl⟩ := hrel
    have hle := comN_le a b k
    by_cases c1 : k + 1 ≤ a
    · by_cases c2 : k + 1 ≤ b
      · have d1 : decide ((k : Int) + 1 ≤ a) = true := decide_eq_true (by omega)
        have d2 : decide ((k : Int) + 1 ≤ b) = true := decide_eq_true (by omega)
        have n0 : ¬ ((k : Int) + 1 = 0) := by omega
        by_cases c3 : a % (k + 1) = 0
        · have e3 : ((a : Int) % ((k : Int) + 1)) = 0 := by have := congrArg (Nat.cast (R := Int)) c3; simpa using this
          by_cases c4 : b % (k + 1) = 0
          · have e4 : ((b : Int) % ((k : Int) + 1)) = 0 := by have := congrArg (Nat.cast (R := Int)) c4; simpa using this
            have HC := Lib.hid (show comN a b (k + 1) = k + 1 by rw [comN, if_pos ⟨c3, c4⟩])
            clear c3 c4
            go_wp2
            go_round
            case rel => exact ⟨k + 1, by omega, by go_num, by rw [HC.out]; go_num⟩
            case measure => simp [intOf]; omega
          · have e4 : (((b : Int) % ((k : Int) + 1)) == 0) = false := by
              simp only [beq_eq_false_iff_ne, ne_eq]
              intro h; apply c4; have : ((b % (k + 1) : Nat) : Int) = 0 := by simpa using h
              omega
            have HC := Lib.hid (show comN a b (k + 1) = comN a b k by rw [comN, if_neg (fun h => c4 h.2)])
            clear c3 c4
            go_wp2
            go_round
            case rel => exact ⟨k + 1, by omega, by go_num, by rw [HC.out]⟩
            case measure => simp [intOf]; omega
        · have e3 : (((a : Int) % ((k : Int) + 1)) == 0) = false := by
            simp only [beq_eq_false_iff_ne, ne_eq]
            intro h; apply c3; have : ((a % (k + 1) : Nat) : Int) = 0 := by simpa using h
            omega
          have HC := Lib.hid (show comN a b (k + 1) = comN a b k by rw [comN, if_neg (fun h => c3 h.1)])
          clear c3
          go_wp2
          go_round
          case rel => exact ⟨k + 1, by omega, by go_num, by rw [HC.out]⟩
          case measure => simp [intOf]; omega
      · have d1 : decide ((k : Int) + 1 ≤ a) = true := decide_eq_true (by omega)
        have d2 : decide ((k : Int) + 1 ≤ b) = false := decide_eq_false (by omega)
        have he := HF.out k (by omega)
        have HE := Lib.hid he
        clear he
        go_wp2
        go_ret
        exact ⟨(by rw [HE.out]; rfl), rfl⟩
    · have d1 : decide ((k : Int) + 1 ≤ a) = false := decide_eq_false (by omega)
      have he := HF.out k (by omega)
      have HE := Lib.hid he
      clear he
      go_wp2
      go_ret
      exact ⟨(by rw [HE.out]; rfl), rfl⟩
end Go.Proofs.Ytpfhejodjpgliaa
