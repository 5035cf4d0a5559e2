/-
  The points of spread; the reference's minimum-storage codes, and its local codes.
-/
import Derived.Test.YtpfhejodjpgliaaCfgRefs2
import Derived.Test.YtpfhejodjpgliaaRegion
namespace Go.Proofs.Ytpfhejodjpgliaa
open Go.RowKit
set_option linter.unusedSimpArgs false
set_option linter.unusedVariables false

def RetCode (code : Int) (w : World) (e : Ending) (w' : World) : Prop :=
  ∃ v, e = .returned (.tuple #[v, .int .i64 code]) ∧ Below w.heap.size w w'

set_option maxHeartbeats 800000 in
theorem refSpread (n al : Nat) (w : World) (ha : 0 < al) (ha2 : al ≤ 255) (hn : n ≤ 1000) :
    (n ≤ 255 / Nat.gcd al 255 → Calls Try.prog 34 #[.int .i64 n, .int .i64 al] w (RetCode 0 w)) ∧
    (¬ n ≤ 255 / Nat.gcd al 255 → Calls Try.prog 34 #[.int .i64 n, .int .i64 al] w (RetCode 2 w)) := by
  have hg := Nat.gcd_pos_of_pos_left 255 ha
  have HC := refCommon al 255 w ha (by omega) ha2 (by omega)
  generalize hG : Nat.gcd al 255 = g at hg HC ⊢
  generalize hQ : 255 / g = q
  have hq : q ≤ 255 := by rw [← hQ]; exact Nat.div_le_self _ _
  have g0 : ¬ ((g : Int) = 0) := by omega
  have e1 : (255 : Int).tdiv (g : Int) = (q : Int) := by rw [← hQ, Int.tdiv_eq_ediv_of_nonneg (by omega)]; rfl
  have e2 : IntKind.i64.wrap (q : Int) = q := IntWalk.i64_in _ (by omega)
  have d1 : decide ((al : Int) < 1) = false := decide_eq_false (by omega)
  have d2 : decide ((255 : Int) < al) = false := decide_eq_false (by omega)
  have d3 : decide ((n : Int) < 0) = false := decide_eq_false (by omega)
  clear hG hQ hg
  constructor
  · intro hle
    have d4 : decide ((q : Int) < n) = false := decide_eq_false (by omega)
    go_enter Try.func34, Try.ntmps34
    go_wp2_with (first | (go_at_call 36; refine HC.mono ?_; rintro e w' ⟨rfl, rfl⟩) | (go_at_call 37; refine (refOf_any n w (by omega)).mono ?_; rintro e w' ⟨v, rfl, hv, hb⟩))
    go_ret2
    exact ⟨v, rfl, hb⟩
  · intro hle
    have d4 : decide ((q : Int) < n) = true := decide_eq_true (by omega)
    go_enter Try.func34, Try.ntmps34
    go_wp2_with (first | (go_at_call 36; refine HC.mono ?_; rintro e w' ⟨rfl, rfl⟩) | (go_at_call 37; refine (refOf_any n w (by omega)).mono ?_; rintro e w' ⟨v, rfl, hv, hb⟩))
    go_ret2
    exact ⟨_, rfl, Below.refl _ _⟩
end Go.Proofs.Ytpfhejodjpgliaa
