/-
  starfishref06.Of: the first points.
-/
import Derived.Test.YtpfhejodjpgliaaGfMul
import Derived.Test.YtpfhejodjpgliaaPut2
import Derived.Maps.AppendAt
namespace Go.Proofs.Ytpfhejodjpgliaa
open Go.RowKit
set_option linter.unusedVariables false

theorem u8_info : (Try.prog.info? 5).map (fun i => (i.zero, i.size, i.bytes)) = some (some (.int .u8 0), 1, 1) := by kernel_rfl

theorem own_ge {w : World} {base : Nat} {e : TypeId} {size n : Nat} {v : Value} {xs : List Value} (h : w.ownsRow base e size v n xs) : ∀ k, v.ownBlock = some k → base ≤ k := by
  intro k hk
  rcases h.2 with ⟨rfl, _⟩ | ⟨g, cap, cur, rfl, hg, _⟩
  · simp [Value.ownBlock] at hk
  · simp [Value.ownBlock] at hk
    omega

/-- Bytes as cells. -/
def bytesV (l : List Nat) : List Value := l.map fun x => .int .u8 (x : Nat)

/-- A row of bytes in new memory, and a code. -/
def RetBytes (w : World) (l : List Nat) (code : Int) (e : Ending) (w' : World) : Prop :=
  ∃ v, e = .returned (.tuple #[v, .int .i64 code]) ∧ w'.ownsRow w.heap.size 5 1 v l.length (bytesV l) ∧ Below w.heap.size w w'

/-- The first points. -/
def pointsN (n : Nat) : List Nat := (List.range n).map fun (i : Nat) => gpow 2 (i : Int)
theorem pointsN_succ (n : Nat) : bytesV (pointsN (n + 1)) = bytesV (pointsN n) ++ [.int .u8 (gpow 2 n : Nat)] := by
  simp [pointsN, bytesV, List.range_succ]
theorem pointsN_length (n : Nat) : (pointsN n).length = n := by simp [pointsN]

set_option maxHeartbeats 800000 in
theorem refOf_any (n : Nat) (w : World) (hn : n ≤ 255) :
    Calls Try.prog 37 #[.int .i64 n] w (RetBytes w (pointsN n) 0) := by
  obtain ⟨i0, hi, hz0, hz1, hz2⟩ := info_parts u8_info
  have d1 : decide ((n : Int) < 0) = false := decide_eq_false (by omega)
  have d2 : decide ((255 : Int) < n) = false := decide_eq_false (by omega)
  go_enter Try.func37, Try.ntmps37
  go_wp2
  go_loopw [4, 5] (fun v i wr => ∃ j : Nat, j ≤ n ∧ i = .int .i64 j ∧ wr.ownsRow w.heap.size 5 1 v j (bytesV (pointsN j)) ∧ Below w.heap.size w wr) (fun _ i _ => n - (intOf i).toNat)
  case atStart => exact ⟨0, by omega, rfl, World.ownsRow_nil _ _ _ _, Below.refl _ _⟩
  case round =>
    obtain ⟨j, hj, rfl, hown, hb⟩ := hrel
    by_cases hlt : j < n
    · have hs := hb.size
      go_wp2_with (first
        | (go_at_call 38; refine (pow_any 2 j _ (by omega) (by omega)).mono ?_; rintro e w' ⟨rfl, rfl⟩)
        | (at_builtin; refine wpList_append_own _ rfl _ _ 34 rfl w.heap.size 5 i0 (.int .u8 0) 1 1 Try.underlying34 hi hz0 hz1 hz2 rfl (by decide) _ _ _ rfl (hown.alloc _) ⟨wr.heap.size, 0, none⟩ 1 1 [.int .u8 (gpow 2 j : Nat)] rfl rfl (cell_one_new _ _ _) (by simp [Value.oneCell']) (by unfold maxLen; omega) (by omega) (by simp; omega) ?_; intro v' w1 hown' hgrow _))
      rw [← pointsN_succ] at hown'
      have hb1 : Below w.heap.size w w1 := (hb.alloc hs _).grown hgrow (by simp; omega) (own_ge hown)
      go_roundw
      case rel => exact ⟨j + 1, by omega, by go_num, hown', hb1⟩
      case measure => simp [intOf]; omega
    · obtain rfl : j = n := by omega
      go_wp2
      go_ret2
      exact ⟨_, rfl, by rw [pointsN_length]; exact hown, hb⟩
end Go.Proofs.Ytpfhejodjpgliaa
