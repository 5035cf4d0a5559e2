/-
  The references' small methods that config's reference asks.
-/
import Derived.Test.YtpfhejodjpgliaaOf
import Derived.Test.YtpfhejodjpgliaaRegion
import Derived.Test.YtpfhejodjpgliaaCfgPlain2
import Derived.Deep.QuietTactic
import Derived.BigQuiet
namespace Go.Proofs.Ytpfhejodjpgliaa
open Go.RowKit
set_option linter.unusedSimpArgs false
set_option linter.unusedVariables false

set_option maxHeartbeats 400000 in
theorem r09Alpha (n k d : Int) (w : World) (hn : 1 ≤ n ∧ n ≤ 255) (hk : 0 ≤ k ∧ k ≤ 255) (hd : 0 ≤ d ∧ d ≤ 255) :
    Calls Try.prog 24 #[.agg #[.int .i64 n, .int .i64 k, .int .i64 d]] w fun e w' => e = .returned (.int .i64 (d - k + 1)) ∧ w' = w.alloc (.cells #[.int .i64 n, .int .i64 k, .int .i64 d] 54) := by
  go_enter Try.func24, Try.ntmps24
  go_wp2
  go_ret
  exact ⟨rfl, rfl⟩
set_option maxHeartbeats 400000 in
theorem r09Dumb (n k d : Int) (w : World) (hn : 1 ≤ n ∧ n ≤ 255) (hk : 0 ≤ k ∧ k ≤ 255) (hd : 0 ≤ d ∧ d ≤ 255) :
    Calls Try.prog 35 #[.agg #[.int .i64 n, .int .i64 k, .int .i64 d]] w fun e w' => e = .returned (.int .i64 (d - 2 * k + 2)) ∧ w' = w.alloc (.cells #[.int .i64 n, .int .i64 k, .int .i64 d] 54) := by
  go_enter Try.func35, Try.ntmps35
  go_wp2
  go_ret
  exact ⟨rfl, rfl⟩
set_option maxHeartbeats 400000 in
theorem r10Alpha (n k d : Int) (w : World) (hn : 1 ≤ n ∧ n ≤ 255) (hk : 0 ≤ k ∧ k ≤ 255) (hd : 0 ≤ d ∧ d ≤ 255) :
    Calls Try.prog 26 #[.agg #[.int .i64 n, .int .i64 k, .int .i64 d]] w fun e w' => e = .returned (.int .i64 (d)) ∧ w' = w.alloc (.cells #[.int .i64 n, .int .i64 k, .int .i64 d] 57) := by
  go_enter Try.func26, Try.ntmps26
  go_wp2
  go_ret
  exact ⟨rfl, rfl⟩

set_option maxHeartbeats 400000 in
theorem r11Alpha (n k : Int) (w : World) (hn : 1 ≤ n ∧ n ≤ 255) :
    Calls Try.prog 29 #[.agg #[.int .i64 n, .int .i64 k]] w fun e w' => e = .returned (.int .i64 (n - 1)) ∧ w' = w.alloc (.cells #[.int .i64 n, .int .i64 k] 60) := by
  go_enter Try.func29, Try.ntmps29
  go_wp2
  go_ret
  exact ⟨rfl, rfl⟩

set_option maxHeartbeats 400000 in
theorem r10B (n k d : Int) (w : World) (hk : 0 ≤ k ∧ k ≤ 255) (hd : 0 ≤ d ∧ d ≤ 255) :
    Calls Try.prog 27 #[.agg #[.int .i64 n, .int .i64 k, .int .i64 d]] w fun e w' => e = .returned (.int .i64 (k * d - k * (k - 1) / 2)) ∧ w' = w.alloc (.cells #[.int .i64 n, .int .i64 k, .int .i64 d] 57) := by
  have q2 := mul_bd (a := k) (b := d) (by omega) hk.2 hd.1 hd.2
  have q1 : 0 ≤ k * (k - 1) ∧ k * (k - 1) ≤ 65025 := by
    by_cases h : k = 0
    · subst h; simp
    · have := mul_bd (a := k) (b := k - 1) (by omega) hk.2 (by omega) (show k - 1 ≤ 255 by omega)
      omega
  have e3 : IntKind.i64.wrap (k - 1) = k - 1 := IntWalk.i64_in _ (by omega)
  have e4 : IntKind.i64.wrap (k * (k - 1)) = k * (k - 1) := IntWalk.i64_in _ (by omega)
  have e5 : IntKind.i64.wrap (k * d) = k * d := IntWalk.i64_in _ (by omega)
  have e6 : (k * (k - 1)).tdiv 2 = k * (k - 1) / 2 := Int.tdiv_eq_ediv_of_nonneg (by omega)
  have e7 : IntKind.i64.wrap (k * (k - 1) / 2) = k * (k - 1) / 2 := IntWalk.i64_in _ (by omega)
  have e8 : IntKind.i64.wrap (k * d - k * (k - 1) / 2) = k * d - k * (k - 1) / 2 := IntWalk.i64_in _ (by omega)
  go_enter Try.func27, Try.ntmps27
  go_wp2
  go_ret
  exact ⟨rfl, rfl⟩

set_option maxHeartbeats 400000 in
theorem r11B (n k : Int) (w : World) (hk : 0 ≤ k ∧ k ≤ 255) (hn : 1 ≤ n ∧ n ≤ 255) :
    Calls Try.prog 30 #[.agg #[.int .i64 n, .int .i64 k]] w fun e w' => e = .returned (.int .i64 (k * (n - 1) - k * (k - 1) / 2)) ∧ w' = w.alloc (.cells #[.int .i64 n, .int .i64 k] 60) := by
  have q2 := mul_bd (a := k) (b := n - 1) (by omega) hk.2 (by omega) (show n - 1 ≤ 254 by omega)
  have q1 : 0 ≤ k * (k - 1) ∧ k * (k - 1) ≤ 65025 := by
    by_cases h : k = 0
    · subst h; simp
    · have := mul_bd (a := k) (b := k - 1) (by omega) hk.2 (by omega) (show k - 1 ≤ 255 by omega)
      omega
  have e2 : IntKind.i64.wrap (n - 1) = n - 1 := IntWalk.i64_in _ (by omega)
  have e3 : IntKind.i64.wrap (k - 1) = k - 1 := IntWalk.i64_in _ (by omega)
  have e4 : IntKind.i64.wrap (k * (k - 1)) = k * (k - 1) := IntWalk.i64_in _ (by omega)
  have e5 : IntKind.i64.wrap (k * (n - 1)) = k * (n - 1) := IntWalk.i64_in _ (by omega)
  have e6 : (k * (k - 1)).tdiv 2 = k * (k - 1) / 2 := Int.tdiv_eq_ediv_of_nonneg (by omega)
  have e7 : IntKind.i64.wrap (k * (k - 1) / 2) = k * (k - 1) / 2 := IntWalk.i64_in _ (by omega)
  have e8 : IntKind.i64.wrap (k * (n - 1) - k * (k - 1) / 2) = k * (n - 1) - k * (k - 1) / 2 := IntWalk.i64_in _ (by omega)
  go_enter Try.func30, Try.ntmps30
  go_wp2
  go_ret
  exact ⟨rfl, rfl⟩

set_option maxHeartbeats 400000 in
theorem r12Tells (n k r : Int) (w : World) (hk : 0 ≤ k ∧ k ≤ 255) (hr : 1 ≤ r ∧ r ≤ 255) :
    Calls Try.prog 33 #[.agg #[.int .i64 n, .int .i64 k, .int .i64 r]] w fun e w' => e = .returned (.int .i64 (k + k / r - 1)) ∧ ∃ m, w' = (w.alloc (.cells #[.int .i64 n, .int .i64 k, .int .i64 r] 63)).drewN m := by
  have r3 : ¬ r = 0 := by omega
  have q1 : 0 ≤ k / r ∧ k / r ≤ k := ⟨Int.ediv_nonneg (by omega) (by omega), Int.ediv_le_self _ (by omega)⟩
  have e0 : k.tdiv r = k / r := Int.tdiv_eq_ediv_of_nonneg (by omega)
  have e1 : IntKind.i64.wrap (k / r) = k / r := IntWalk.i64_in _ (by omega)
  have e2 : IntKind.i64.wrap (k + k / r) = k + k / r := IntWalk.i64_in _ (by omega)
  have e3 : IntKind.i64.wrap (k + k / r - 1) = k + k / r - 1 := IntWalk.i64_in _ (by omega)
  go_enter Try.func33, Try.ntmps33
  go_wp2
  go_quiet (fail)
  go_wp2
  go_ret
  exact ⟨rfl, _, rfl⟩

/-- Tests one behind the other. -/
def okN10 (n k d : Int) : Prop := 1 ≤ k ∧ k ≤ d ∧ d < n ∧ n ≤ 255
def okN11 (n k : Int) : Prop := 1 ≤ k ∧ k < n ∧ n ≤ 23
set_option maxHeartbeats 1000000 in
theorem r10New (n k d : Int) (w : World) :
    (okN10 n k d → Calls Try.prog 28 #[.agg #[.int .i64 n, .int .i64 k, .int .i64 d]] w fun e w' => e = .returned (.int .i64 0) ∧ w' = w.alloc (.cells #[.int .i64 n, .int .i64 k, .int .i64 d] 57)) ∧
    (¬ okN10 n k d → Calls Try.prog 28 #[.agg #[.int .i64 n, .int .i64 k, .int .i64 d]] w fun e w' => e = .returned (.int .i64 2) ∧ w' = w.alloc (.cells #[.int .i64 n, .int .i64 k, .int .i64 d] 57)) := by
  unfold okN10
  constructor
  · rintro ⟨h1, h2, h3, h4⟩
    have f1 : decide (k < 1) = false := decide_eq_false (by omega)
    have f2 : decide (d < k) = false := decide_eq_false (by omega)
    have f3 : decide (n ≤ d) = false := decide_eq_false (by omega)
    have f4 : decide (255 < n) = false := decide_eq_false (by omega)
    go_enter Try.func28, Try.ntmps28
    go_wp2
    go_ret
    exact ⟨rfl, rfl⟩
  · intro h
    by_cases c1 : k < 1
    · have f1 : decide (k < 1) = true := decide_eq_true c1
      clear h
      go_enter Try.func28, Try.ntmps28
      go_wp2
      go_ret
      exact ⟨rfl, rfl⟩
    have f1 : decide (k < 1) = false := decide_eq_false c1
    by_cases c2 : d < k
    · have f2 : decide (d < k) = true := decide_eq_true c2
      clear h
      go_enter Try.func28, Try.ntmps28
      go_wp2
      go_ret
      exact ⟨rfl, rfl⟩
    have f2 : decide (d < k) = false := decide_eq_false c2
    by_cases c3 : n ≤ d
    · have f3 : decide (n ≤ d) = true := decide_eq_true c3
      clear h
      go_enter Try.func28, Try.ntmps28
      go_wp2
      go_ret
      exact ⟨rfl, rfl⟩
    have f3 : decide (n ≤ d) = false := decide_eq_false c3
    have c4 : 255 < n := by omega
    have f4 : decide (255 < n) = true := decide_eq_true c4
    clear h
    go_enter Try.func28, Try.ntmps28
    go_wp2
    go_ret
    exact ⟨rfl, rfl⟩
set_option maxHeartbeats 1000000 in
theorem r11New (n k : Int) (w : World) :
    (okN11 n k → Calls Try.prog 31 #[.agg #[.int .i64 n, .int .i64 k]] w fun e w' => e = .returned (.int .i64 0) ∧ w' = w.alloc (.cells #[.int .i64 n, .int .i64 k] 60)) ∧
    (¬ okN11 n k → Calls Try.prog 31 #[.agg #[.int .i64 n, .int .i64 k]] w fun e w' => e = .returned (.int .i64 2) ∧ w' = w.alloc (.cells #[.int .i64 n, .int .i64 k] 60)) := by
  unfold okN11
  constructor
  · rintro ⟨h1, h2, h3⟩
    have f1 : decide (k < 1) = false := decide_eq_false (by omega)
    have f2 : decide (n ≤ k) = false := decide_eq_false (by omega)
    have f3 : decide (23 < n) = false := decide_eq_false (by omega)
    go_enter Try.func31, Try.ntmps31
    go_wp2
    go_ret
    exact ⟨rfl, rfl⟩
  · intro h
    by_cases c1 : k < 1
    · have f1 : decide (k < 1) = true := decide_eq_true c1
      clear h
      go_enter Try.func31, Try.ntmps31
      go_wp2
      go_ret
      exact ⟨rfl, rfl⟩
    have f1 : decide (k < 1) = false := decide_eq_false c1
    by_cases c2 : n ≤ k
    · have f2 : decide (n ≤ k) = true := decide_eq_true c2
      clear h
      go_enter Try.func31, Try.ntmps31
      go_wp2
      go_ret
      exact ⟨rfl, rfl⟩
    have f2 : decide (n ≤ k) = false := decide_eq_false c2
    have c3 : 23 < n := by omega
    have f3 : decide (23 < n) = true := decide_eq_true c3
    clear h
    go_enter Try.func31, Try.ntmps31
    go_wp2
    go_ret
    exact ⟨rfl, rfl⟩
end Go.Proofs.Ytpfhejodjpgliaa
