/-
  The greatest common divisor of config.
-/
import Derived.Test.YtpfhejodjpgliaaRows
import Derived.WalkKit
import Derived.WalkSpells
import Derived.WalkLawsBesides
import Derived.Deep.QuietTactic
import Derived.BigQuiet
import Derived.Lib.Hide
import Derived.Handy
namespace Go.Proofs.Ytpfhejodjpgliaa
open Go.RowKit

set_option maxHeartbeats 400000 in
theorem common_any (a b : Int) (w : World) (ha0 : 0 ≤ a) (hb0 : 0 ≤ b) (ha : a ≤ 255) (hb : b ≤ 255) :
    Calls Try.prog 20 #[.int .i64 a, .int .i64 b] w fun e w' => e = .returned (.int .i64 (Int.gcd a b : Nat)) ∧ ∃ n, w' = w.drewN n := by
  obtain ⟨a, rfl⟩ := Int.eq_ofNat_of_zero_le ha0
  obtain ⟨b, rfl⟩ := Int.eq_ofNat_of_zero_le hb0
  have hfin : Int.gcd (a : Int) (b : Int) = Nat.gcd a b := rfl
  rw [hfin]
  clear hfin
  go_enter Try.func20, Try.ntmps20
  go_wp2
  go_loopw [0, 1] (fun x y wr => ∃ p q : Nat, p ≤ 255 ∧ q ≤ 255 ∧ x = .int .i64 p ∧ y = .int .i64 q ∧ Hid (Nat.gcd p q = Nat.gcd a b) ∧ ∃ n, wr = w.drewN n)
    (fun _ y _ => (intOf y).toNat)
  case atStart => exact ⟨a, b, by omega, by omega, rfl, rfl, Lib.hid rfl, 0, rfl⟩
  case round =>
    obtain ⟨p, q, hp, hq, rfl, rfl, hg, n, rfl⟩ := hrel
    by_cases hz : 0 < q
    · have hlt := Nat.mod_lt p hz
      go_wp2
      go_quiet (fail)
      go_wp2
      go_roundw
      case rel => exact ⟨q, p % q, hq, by omega, rfl, by simp, Lib.hid (by rw [Nat.gcd_comm, ← Nat.gcd_rec, Nat.gcd_comm]; exact hg.out), _, World.drewN_drewN _ _ _⟩
      case measure => simp [intOf]; omega
    · obtain rfl : q = 0 := by omega
      go_wp2
      go_ret
      exact ⟨by rw [← hg.out]; simp, _, rfl⟩
end Go.Proofs.Ytpfhejodjpgliaa
