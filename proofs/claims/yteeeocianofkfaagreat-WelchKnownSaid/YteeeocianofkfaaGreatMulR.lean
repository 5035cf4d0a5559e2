/-
  starfishref03.Mul: the document's product of bytes.
-/
import Derived.Test.YteeeocianofkfaaGreatRows
import Derived.Test.YteeeocianofkfaaGreatBase
import Derived.WalkKit
import Derived.WalkSpells
import Derived.WalkLawsBesides
import Derived.Lib.Hide
import Derived.Handy
namespace Go.Proofs.YteeeocianofkfaaGreat
open Go.RowKit
set_option linter.unusedVariables false
theorem redA_step (M j : Nat) (h1 : 8 ≤ j) (h2 : j ≤ 14) : redA M (14 - (j - 1)) = if (redA M (14 - j)).testBit j then redA M (14 - j) ^^^ (285 * 2 ^ (j - 8)) else redA M (14 - j) := by
  rw [show 14 - (j - 1) = (14 - j) + 1 by omega, redA, show 14 - (14 - j) = j by omega, show 6 - (14 - j) = j - 8 by omega]

set_option maxHeartbeats 400000 in
theorem mul_any (a b : Nat) (w : World) (ha : a < 256) (hb : b < 256) :
    Calls Tryz.prog 70 #[.int .u8 a, .int .u8 b] w fun e w' => e = .returned (.int .u8 (gmul a b : Nat)) ∧ w = w' := by
  go_enter Tryz.func70, Tryz.ntmps70
  go_wp2
  go_loop [5, 6] (fun n i => ∃ k : Nat, k ≤ 8 ∧ i = .int .i64 k ∧ n = .int .i64 (mulA a b k : Nat)) (fun _ i => 8 - (intOf i).toNat)
  case atStart => exact ⟨0, by omega, rfl, rfl⟩
  case round =>
    obtain ⟨k, hk, rfl, rfl⟩ := hrel
    have hm := mulA_lt (b := b) ha k
    have hm2 : (2 : Nat) ^ (8 + k) ≤ 2 ^ 16 := Nat.pow_le_pow_right (by omega) (by omega)
    have hm3 : mulA a b k < 65536 := by omega
    clear hm hm2
    by_cases hlt : k < 8
    · have hbit := u8_bit b k hb
      have hp : a * 2 ^ k < 65536 := by
        have h1 : (2 : Nat) ^ k ≤ 2 ^ 7 := Nat.pow_le_pow_right (by omega) (by omega)
        have := Nat.mul_le_mul (Nat.le_of_lt_succ ha) h1
        omega
      have hw : wrap64 ((a : Int) * 2 ^ k) = ((a * 2 ^ k : Nat) : Int) := by
        rw [show ((a : Int) * 2 ^ k) = ((a * 2 ^ k : Nat) : Int) by simp]
        exact IntWalk.wrap64_in _ (by omega)
      have hx := i64_xor_nat (mulA a b k) (a * 2 ^ k) (by omega) (by omega)
      have HX : Hid (bits .xor .i64 ((mulA a b k : Nat) : Int) (wrap64 ((a : Int) * 2 ^ k)) = ((mulA a b k ^^^ (a * 2 ^ k) : Nat) : Int)) := by rw [hw]; exact hx
      clear hw hx hp
      cases ht : b.testBit k
      all_goals
        rw [ht] at hbit
        have HT := Lib.hid ht
        clear ht
        go_wp2
        go_round
        case rel => exact ⟨k + 1, by omega, by go_num, by first | rw [HX.out, mulA, if_pos HT.out] | rw [mulA, HT.out, if_neg (by simp)]⟩
        case measure => simp [intOf]; omega
    · obtain rfl : k = 8 := by omega
      go_wp2
      go_loop [5, 7] (fun n i => ∃ j : Nat, 7 ≤ j ∧ j ≤ 14 ∧ i = .int .i64 j ∧ n = .int .i64 (redA (mulA a b 8) (14 - j) : Nat)) (fun _ i => (intOf i).toNat)
      case atStart => exact ⟨14, by omega, by omega, rfl, rfl⟩
      case round =>
        obtain ⟨j, hj, hj2, rfl, rfl⟩ := hrel
        have hr := redA_lt hm3 (14 - j) (by omega)
        obtain ⟨m, hm⟩ : ∃ m, m = redA (mulA a b 8) (14 - j) := ⟨_, rfl⟩
        rw [← hm] at hr ⊢
        by_cases h8 : 8 ≤ j
        · have hbit := i64_bit m j hr
          have HB := Lib.hid hm
          clear hm
          have hw : wrap64 (285 * 2 ^ (j - 8)) = ((285 * 2 ^ (j - 8) : Nat) : Int) := by
            rw [show ((285 : Int) * 2 ^ (j - 8)) = ((285 * 2 ^ (j - 8) : Nat) : Int) by simp]
            have h1 : (2 : Nat) ^ (j - 8) ≤ 2 ^ 6 := Nat.pow_le_pow_right (by omega) (by omega)
            exact IntWalk.wrap64_in _ (by omega)
          have hp : 285 * 2 ^ (j - 8) < 65536 := by
            have h1 : (2 : Nat) ^ (j - 8) ≤ 2 ^ 6 := Nat.pow_le_pow_right (by omega) (by omega)
            omega
          have HX : Hid (bits .xor .i64 (m : Int) (wrap64 (285 * 2 ^ (j - 8))) = ((m ^^^ (285 * 2 ^ (j - 8)) : Nat) : Int)) := by rw [hw]; exact i64_xor_nat m _ (by omega) (by omega)
          clear hw hp
          cases ht : m.testBit j
          all_goals
            rw [ht] at hbit
            have HT := Lib.hid ht
            clear ht
            go_wp2
            go_round
            case rel => exact ⟨j - 1, by omega, by omega, by rw [show ((j - 1 : Nat) : Int) = (j : Int) - 1 by omega], by rw [redA_step _ _ h8 hj2, ← HB.out]; first | rw [HX.out, if_pos HT.out] | rw [HT.out, if_neg (by simp)]⟩
            case measure => simp [intOf]; omega
        · obtain rfl : j = 7 := by omega
          have hg : gmul a b = m % 256 := by rw [gmul, hm]
          have HG := Lib.hid hg
          clear hm hg
          go_wp2
          go_ret
          exact ⟨by rw [HG.out]; simp, rfl⟩
end Go.Proofs.YteeeocianofkfaaGreat
