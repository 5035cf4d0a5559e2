/-
  starfishlaw13.ConfigCuts, walked.
-/
import Derived.Test.YtpfhejodjpgliaaCfgWorks
import Derived.Test.YtpfhejodjpgliaaCfgCutsPlain
namespace Go.Proofs.Ytpfhejodjpgliaa
open Go.RowKit
set_option linter.unusedSimpArgs false
set_option linter.unusedVariables false

theorem cutSum_succ (al d : Int) (j : Nat) : cutSum al d (j + 1) = cutSum al d j + if d - (j : Int) < al then d - j else al := by
  simp only [cutSum]
  split <;> omega

set_option maxHeartbeats 4000000 in
theorem cuts_none (c n k d r t q : Int) (w : World) (h : checkF c n k d r t q = none) :
    Calls Try.prog 3 #[.agg #[.int .u8 c, .int .i64 n, .int .i64 k, .int .i64 d, .int .i64 r, .int .i64 t, .int .i64 q]] w fun e w' => e = .returned (.bool true) ∧ Below w.heap.size w w' := by
  have h2 := fun w => check_any c n k d r t q w
  rw [h] at h2
  have H2 := Lib.hid h2
  clear h2 h
  go_enter Try.func3, Try.ntmps3
  go_wp2_with fail
  refine (H2.out _).mono ?_
  rintro e w1 ⟨rfl, hb1⟩
  have b1 : Below w.heap.size w w1 := ((Below.refl _ w).alloc (Nat.le_refl _) _).trans (hb1.mono (by simp))
  simp only [checkV, Sh.zero, Sh.v]
  clear hb1
  go_wp2_with fail
  refine (works_any _).mono ?_
  rintro e w2 ⟨rfl, hb2⟩
  have b2 := (b1.alloc b1.size _).trans (hb2.mono (by have := b1.size; simp; omega))
  clear hb2 b1
  go_wp2
  go_ret
  exact ⟨rfl, b2⟩

set_option maxHeartbeats 4000000 in
theorem cuts_some (c n k d r t q : Int) (s : Sh) (w : World) (h : checkF c n k d r t q = some s) :
    Calls Try.prog 3 #[.agg #[.int .u8 c, .int .i64 n, .int .i64 k, .int .i64 d, .int .i64 r, .int .i64 t, .int .i64 q]] w fun e w' => e = .returned (.bool true) ∧ Below w.heap.size w w' := by
  obtain ⟨⟨a1, a2, a3, a4, a5, a6, a7, a8, a9, a10⟩, ⟨p1, p2⟩, ⟨p3, p4⟩, ⟨p5, p6⟩, p7, p8, p9, p10, p11, p12⟩ := cuts_plain h
  obtain ⟨k, rfl⟩ := Int.eq_ofNat_of_zero_le a3
  simp only [Int.toNat_natCast] at p12
  obtain ⟨m, hm⟩ : ∃ m, m = s.te * s.al := ⟨_, rfl⟩
  have hmb : 0 ≤ s.te * s.al ∧ s.te * s.al ≤ 510 * 255 := mul_bd (by omega) p6 (by omega) p2
  have h2 := fun w => check_any c n k d r t q w
  rw [h] at h2
  have H2 := Lib.hid h2
  have P12 := Lib.hid p12
  clear h2 h hm p12
  have P11 := Lib.hid p11
  clear p11
  go_enter Try.func3, Try.ntmps3
  go_wp2_with fail
  refine (H2.out _).mono ?_
  rintro e w1 ⟨rfl, hb1⟩
  have b1 : Below w.heap.size w w1 := ((Below.refl _ w).alloc (Nat.le_refl _) _).trans (hb1.mono (by simp))
  have x0 := row_cells ((hb1.block _ (by simp)).trans (heap_new w (.cells #[.int .u8 c, .int .i64 n, .int .i64 k, .int .i64 d, .int .i64 r, .int .i64 t, .int .i64 q] 23)))
  have z0 : w.heap.size < w1.heap.size := by have := hb1.size; simp at this; omega
  simp only [checkV, Sh.v]
  clear hb1
  go_wp2
  go_loop [5, 6] (fun a i => ∃ j : Nat, j ≤ k ∧ i = .int .i64 j ∧ a = .int .i64 (cutSum s.al d j)) (fun _ i => k - (intOf i).toNat)
  case atStart => exact ⟨0, Nat.zero_le _, rfl, rfl⟩
  case round =>
    obtain ⟨j, hj, rfl, rfl⟩ := hrel
    have q1 := cutSum_bd (al := s.al) (d := d) (by omega) (by omega) j (by omega)
    by_cases hlt : j < k
    · go_wp2
      go_round
      case rel => exact ⟨j + 1, by omega, by go_num, by rw [cutSum_succ]⟩
      case measure => simp [intOf]; omega
    · obtain rfl : j = k := by omega
      have e1 : decide (1 ≤ s.b) = true := decide_eq_true (by omega)
      have e2 : decide (1 ≤ s.al) = true := decide_eq_true (by omega)
      have e3 : decide (s.b ≤ s.te * s.al) = true := decide_eq_true (by omega)
      by_cases c2 : c = 2
      · have e4 := P12.out (.inl c2)
        rw [e4]
        have e5 := P11.out
        subst c2
        clear e4 P12 P11
        go_wp2_with fail
        refine (works_any _).mono ?_
        rintro e w2 ⟨rfl, hb2⟩
        have b2 := (b1.alloc b1.size _).trans (hb2.mono (by have := b1.size; simp; omega))
        clear hb2 b1
        go_wp2
        go_ret
        exact ⟨rfl, b2⟩
      · by_cases c3 : c = 3
        · have e4 := P12.out (.inr c3)
          rw [e4]
          have e5 := P11.out
          subst c3
          clear e4 P12 P11
          go_wp2_with fail
          refine (works_any _).mono ?_
          rintro e w2 ⟨rfl, hb2⟩
          have b2 := (b1.alloc b1.size _).trans (hb2.mono (by have := b1.size; simp; omega))
          clear hb2 b1
          go_wp2
          go_ret
          exact ⟨rfl, b2⟩
        · have e4 : (c == 2) = false := by simpa using c2
          have e5 : (c == 3) = false := by simpa using c3
          have e6 := P11.out
          clear P12 P11
          go_wp2_with fail
          refine (works_any _).mono ?_
          rintro e w2 ⟨rfl, hb2⟩
          have b2 := (b1.alloc b1.size _).trans (hb2.mono (by have := b1.size; simp; omega))
          clear hb2 b1
          go_wp2
          go_ret
          exact ⟨rfl, b2⟩

theorem cuts_any (c n k d r t q : Int) (w : World) :
    Calls Try.prog 3 #[.agg #[.int .u8 c, .int .i64 n, .int .i64 k, .int .i64 d, .int .i64 r, .int .i64 t, .int .i64 q]] w fun e w' => e = .returned (.bool true) ∧ Below w.heap.size w w' := by
  cases h : checkF c n k d r t q with
  | none => exact cuts_none c n k d r t q w h
  | some s => exact cuts_some c n k d r t q s w h
end Go.Proofs.Ytpfhejodjpgliaa
