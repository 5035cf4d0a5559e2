/-
  The table of what was tried: a map whose keys are pairs of numbers.
-/
import Derived.Test.YtggecoekoilahaaIdPlain
import Derived.Maps.OwnOps
import Derived.Maps.Views
import Derived.DeepKeys5
namespace Go.Proofs.Ytggecoekoilahaa
open Go.RowKit
set_option linter.unusedSimpArgs false
set_option linter.unusedVariables false

abbrev keyV (x y : Int) : Value := .agg #[.int .u64 x, .int .i64 y]
theorem tried_laidOut : laidOutB Try.prog = true := by kernel_rfl
theorem tried_keyType : Try.prog.keyType 61 = true := by kernel_rfl
theorem tried_cells : Try.prog.cellsOf 61 = 2 := by kernel_rfl
theorem tried_keyed : Maps.Keyed Try.prog 61 :=
  Maps.Keyed.of_law (deep_law_gate tried_laidOut (of_decide_eq_true (by kernel_rfl)) (of_decide_eq_true (by kernel_rfl)) tried_keyType (by rw [Try.underlying61]))

theorem tried_key (x y : Int) (hx : (Lit.int .u64 x).wf = true) (hy : (Lit.int .i64 y).wf = true) : ∃ kl, keyOf Try.prog 61 (keyV x y) = some kl := by
  unfold keyOf
  obtain ⟨m, hm⟩ : ∃ m, Try.prog.types.size = m + 1 := ⟨Try.prog.types.size - 1, by have : 0 < Try.prog.types.size := of_decide_eq_true (by kernel_rfl); omega⟩
  rw [hm]
  have c1 : Try.prog.cellsOf 59 = 1 := by kernel_rfl
  have c2 : Try.prog.cellsOf 3 = 1 := by kernel_rfl
  simp [Try.underlying61, tried_keyType, Value.formed, tried_cells, Program.keyLits, Try.underlying59, Try.underlying3, c1, c2, hx, hy, Value.cells]

/-- What the table tells of each pair. -/
def SeenIs (w : World) (bm n : Nat) (S : Int → Int → Int) : Prop :=
  ∃ D : DataW Unit, w.ownsMap Try.prog 61 (plainElem Try.prog 3) bm n D ∧ Maps.IsMap D ∧
    ∀ x y kl, (Lit.int .u64 x).wf = true → (Lit.int .i64 y).wf = true → keyOf Try.prog 61 (keyV x y) = some kl → D.atKey kl (.lit (.int .i64 0)) = .lit (.int .i64 (S x y))

theorem SeenIs.made (w : World) : SeenIs (w.alloc (.map #[] 0)) w.heap.size 0 (fun _ _ => 0) :=
  ⟨_, World.ownsMap_made _ _ _ _, ⟨[], rfl⟩, fun x y kl _ _ _ => rfl⟩
theorem SeenIs.kept {w w' : World} {bm n : Nat} {S : Int → Int → Int} {row : Option Nat} (h : SeenIs w bm n S) (hg : w.grownBy w' row) (hne : some bm ≠ row) : SeenIs w' bm n S := by
  obtain ⟨D, h1, h2, h3⟩ := h
  exact ⟨D, h1.kept hg hne, h2, h3⟩
theorem SeenIs.alloc {w : World} {bm n : Nat} {S : Int → Int → Int} (h : SeenIs w bm n S) (o : Obj) : SeenIs (w.alloc o) bm n S := h.kept (World.grownBy_alloc w o none) (by simp)
theorem SeenIs.lt {w : World} {bm n : Nat} {S : Int → Int → Int} (h : SeenIs w bm n S) : bm < w.heap.size := by
  obtain ⟨D, h1, _, _⟩ := h
  exact h1.lt
theorem zeroInt (w : World) : (zeroValue 3).run Try.prog w = .ok (.int .i64 0) w := by kernel_rfl

theorem SeenIs.look {w : World} {bm n : Nat} {S : Int → Int → Int} (h : SeenIs w bm n S) (x y : Int) (hx : (Lit.int .u64 x).wf = true) (hy : (Lit.int .i64 y).wf = true) :
    (Instr.lookup 57 (.map (some bm)) (keyV x y) false).run Try.prog w = .ok (.int .i64 (S x y)) w := by
  obtain ⟨D, h1, h2, h3⟩ := h
  obtain ⟨kl, hk⟩ := tried_key x y hx hy
  obtain ⟨c, hrun, hat, _⟩ := h1.lookup_int tried_keyed Try.underlying57 Try.underlying3 (zeroInt w) hk
  rw [h3 x y kl hx hy hk] at hat
  simp only [DataW.lit.injEq, Lit.int.injEq, true_and] at hat
  rw [hat]
  exact hrun

theorem SeenIs.put {w : World} {bm n : Nat} {S : Int → Int → Int} (h : SeenIs w bm n S) (hn : n < maxLen) (x y v : Int) (hx : (Lit.int .u64 x).wf = true) (hy : (Lit.int .i64 y).wf = true) (hv : (Lit.int .i64 v).wf = true) :
    ∃ w', (Instr.mapUpdate 57 (.map (some bm)) (keyV x y) (.int .i64 v)).run Try.prog w = .ok () w' ∧ SeenIs w' bm (n + 1) (fun x' y' => if x' = x ∧ y' = y then v else S x' y') ∧ w.grownBy w' (some bm) := by
  obtain ⟨D, h1, h2, h3⟩ := h
  obtain ⟨kl, hk⟩ := tried_key x y hx hy
  obtain ⟨w', hrun, h4, h5⟩ := h1.update tried_keyed Try.underlying57 hn hk (plainElem_int Try.underlying3 hv)
  refine ⟨w', hrun, ⟨_, h4, h2.put _ _, fun x' y' kl' hx' hy' hk' => ?_⟩, h5⟩
  show _ = DataW.lit (.int .i64 (if x' = x ∧ y' = y then v else S x' y'))
  by_cases e : x' = x ∧ y' = y
  · rw [if_pos e]
    obtain ⟨rfl, rfl⟩ := e
    rw [hk] at hk'
    cases hk'
    exact Maps.atKey_put_same h2 (tried_keyed.key hk) _ _
  · rw [if_neg e]
    have hne : kl' ≠ kl := fun e2 => e (by
      subst e2
      have := tried_keyed.inj hk hk'
      simp only [Value.agg.injEq, Array.mk.injEq, List.cons.injEq, Value.int.injEq, true_and, and_true] at this
      exact ⟨this.1.symm, this.2.symm⟩)
    rw [Maps.atKey_put_other hne]
    exact h3 x' y' kl' hx' hy' hk'
end Go.Proofs.Ytggecoekoilahaa
