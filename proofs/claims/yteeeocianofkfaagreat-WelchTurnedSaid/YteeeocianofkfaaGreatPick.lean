/-
  starfishkit.Pick: a number below another one.
-/
import Derived.Test.YteeeocianofkfaaGreatRows
import Derived.WalkKit
import Derived.WalkSpells
import Derived.WalkLawsBesides
import Derived.Lib.Hide
import Derived.IntWalk
namespace Go.Proofs.YteeeocianofkfaaGreat
open Go.RowKit
set_option linter.unusedVariables false

/-- A number below n, or 0. -/
def PickRet (n : Nat) (w : World) (e : Ending) (w' : World) : Prop := ∃ k : Nat, e = .returned (.int .i64 k) ∧ (k < n ∨ (n = 0 ∧ k = 0)) ∧ w = w'

set_option maxHeartbeats 400000 in
theorem pick_any (i : Int) (n : Nat) (w : World) (hn : n ≤ 1000000) :
    Calls Tryz.prog 24 #[.int .i64 i, .int .i64 n] w (PickRet n w) := by
  by_cases h0 : n = 0
  · subst h0
    go_enter Tryz.func24, Tryz.ntmps24
    go_wp2
    go_ret
    exact ⟨0, rfl, .inr ⟨rfl, rfl⟩, rfl⟩
  · have hn0 : ¬ (n : Int) = 0 := by omega
    have hpos : (0 : Int) < n := by omega
    have h1 : -(n : Int) < i.tmod n ∧ i.tmod n < n := by
      have a := Int.tmod_lt_of_pos i hpos
      have b : -(n : Int) < i.tmod n := by
        have := Int.lt_tmod_of_pos i hpos
        omega
      exact ⟨b, a⟩
    obtain ⟨x, hx⟩ : ∃ x, i.tmod n = x := ⟨_, rfl⟩
    rw [hx] at h1
    have hwx : IntKind.i64.wrap x = x := IntWalk.i64_in _ (by omega)
    have hwn : IntKind.i64.wrap (x + n) = x + n := IntWalk.i64_in _ (by omega)
    have h2 : (x + n).tmod n = (x + n) % n := Int.tmod_eq_emod_of_nonneg (by omega)
    have h3 : 0 ≤ (x + n) % n ∧ (x + n) % n < n := ⟨Int.emod_nonneg _ hn0, Int.emod_lt_of_pos _ hpos⟩
    obtain ⟨y, hy⟩ : ∃ y, (x + n) % n = y := ⟨_, rfl⟩
    rw [hy] at h2 h3
    have hwy : IntKind.i64.wrap y = y := IntWalk.i64_in _ (by omega)
    obtain ⟨k, rfl⟩ : ∃ k : Nat, y = k := ⟨y.toNat, by omega⟩
    have HK := Lib.hid h3
    clear h1 h3 hy h0
    go_enter Tryz.func24, Tryz.ntmps24
    go_wp2
    go_ret
    exact ⟨k, rfl, .inl (by have := HK.out; omega), rfl⟩
end Go.Proofs.YteeeocianofkfaaGreat
