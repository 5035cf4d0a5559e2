/-
  config.Check.
-/
import Derived.Test.YtpfhejodjpgliaaCfgShape2
namespace Go.Proofs.Ytpfhejodjpgliaa
open Go.RowKit
set_option linter.unusedSimpArgs false
set_option linter.unusedVariables false

theorem bl_yes (x : Int) (w : World) (h : 0 ≤ x ∧ x ≤ 255) : Calls Try.prog 15 #[.int .i64 x] w fun e w' => e = .returned (.bool true) ∧ w' = w := by
  obtain ⟨h1, h2⟩ := h
  go_enter Try.func15, Try.ntmps15
  go_wp2
  go_ret
  exact ⟨rfl, rfl⟩
theorem bl_no (x : Int) (w : World) (h : x < 0 ∨ 255 < x) : Calls Try.prog 15 #[.int .i64 x] w fun e w' => e = .returned (.bool false) ∧ w' = w := by
  rcases h with h | h
  · have h1 : decide (0 ≤ x) = false := decide_eq_false (by omega)
    go_enter Try.func15, Try.ntmps15
    go_wp2
    go_ret
    exact ⟨by simp [*], rfl⟩
  · have h1 : decide (x ≤ 255) = false := decide_eq_false (by omega)
    have h2 : 0 ≤ x := by omega
    go_enter Try.func15, Try.ntmps15
    go_wp2
    go_ret
    exact ⟨by simp [*], rfl⟩

set_option maxHeartbeats 4000000 in
theorem check_bad (c n k d r t q : Int) (w : World) (h : ¬ inRange n k d r t) :
    Calls Try.prog 7 #[.agg #[.int .u8 c, .int .i64 n, .int .i64 k, .int .i64 d, .int .i64 r, .int .i64 t, .int .i64 q]] w fun e w' => e = .returned (checkV none) ∧ Below w.heap.size w w' := by
  unfold inRange at h
  by_cases c1 : n < 1
  · have d1 : decide (n < 1) = true := decide_eq_true c1
    clear h
    go_enter Try.func7, Try.ntmps7
    go_wp2_with (first | (go_at_call 15; refine (bl_yes _ _ (by omega)).mono ?_; rintro e w' ⟨rfl, rfl⟩) | (go_at_call 15; refine (bl_no _ _ (by omega)).mono ?_; rintro e w' ⟨rfl, rfl⟩))
    refine bodyPost_ret (by simp [results, Try.results7, go_sem]; rfl) rfl ?_
    exact ⟨rfl, by go_grown⟩
  have d1 : decide (n < 1) = false := decide_eq_false c1
  by_cases c2 : n < 0 ∨ 255 < n
  · clear h
    go_enter Try.func7, Try.ntmps7
    go_wp2_with (first | (go_at_call 15; refine (bl_yes _ _ (by omega)).mono ?_; rintro e w' ⟨rfl, rfl⟩) | (go_at_call 15; refine (bl_no _ _ (by omega)).mono ?_; rintro e w' ⟨rfl, rfl⟩))
    refine bodyPost_ret (by simp [results, Try.results7, go_sem]; rfl) rfl ?_
    exact ⟨rfl, by go_grown⟩
  by_cases c3 : k < 0 ∨ 255 < k
  · clear h
    go_enter Try.func7, Try.ntmps7
    go_wp2_with (first | (go_at_call 15; refine (bl_yes _ _ (by omega)).mono ?_; rintro e w' ⟨rfl, rfl⟩) | (go_at_call 15; refine (bl_no _ _ (by omega)).mono ?_; rintro e w' ⟨rfl, rfl⟩))
    refine bodyPost_ret (by simp [results, Try.results7, go_sem]; rfl) rfl ?_
    exact ⟨rfl, by go_grown⟩
  by_cases c4 : d < 0 ∨ 255 < d
  · clear h
    go_enter Try.func7, Try.ntmps7
    go_wp2_with (first | (go_at_call 15; refine (bl_yes _ _ (by omega)).mono ?_; rintro e w' ⟨rfl, rfl⟩) | (go_at_call 15; refine (bl_no _ _ (by omega)).mono ?_; rintro e w' ⟨rfl, rfl⟩))
    refine bodyPost_ret (by simp [results, Try.results7, go_sem]; rfl) rfl ?_
    exact ⟨rfl, by go_grown⟩
  by_cases c5 : r < 0 ∨ 255 < r
  · clear h
    go_enter Try.func7, Try.ntmps7
    go_wp2_with (first | (go_at_call 15; refine (bl_yes _ _ (by omega)).mono ?_; rintro e w' ⟨rfl, rfl⟩) | (go_at_call 15; refine (bl_no _ _ (by omega)).mono ?_; rintro e w' ⟨rfl, rfl⟩))
    refine bodyPost_ret (by simp [results, Try.results7, go_sem]; rfl) rfl ?_
    exact ⟨rfl, by go_grown⟩
  by_cases c6 : t < 0
  · have d6 : decide (t < 0) = true := decide_eq_true c6
    clear h
    go_enter Try.func7, Try.ntmps7
    go_wp2_with (first | (go_at_call 15; refine (bl_yes _ _ (by omega)).mono ?_; rintro e w' ⟨rfl, rfl⟩) | (go_at_call 15; refine (bl_no _ _ (by omega)).mono ?_; rintro e w' ⟨rfl, rfl⟩))
    refine bodyPost_ret (by simp [results, Try.results7, go_sem]; rfl) rfl ?_
    exact ⟨rfl, by go_grown⟩
  have d6 : decide (t < 0) = false := decide_eq_false c6
  · have d7 : decide (127 < t) = true := decide_eq_true (by omega)
    have c7 : 127 < t := by omega
    clear h
    go_enter Try.func7, Try.ntmps7
    go_wp2_with (first | (go_at_call 15; refine (bl_yes _ _ (by omega)).mono ?_; rintro e w' ⟨rfl, rfl⟩) | (go_at_call 15; refine (bl_no _ _ (by omega)).mono ?_; rintro e w' ⟨rfl, rfl⟩))
    refine bodyPost_ret (by simp [results, Try.results7, go_sem]; rfl) rfl ?_
    exact ⟨rfl, by go_grown⟩
end Go.Proofs.Ytpfhejodjpgliaa
