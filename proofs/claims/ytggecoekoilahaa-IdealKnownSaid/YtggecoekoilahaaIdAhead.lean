/-
  The reference's ahead.
-/
import Derived.Test.YtggecoekoilahaaIdRef1
namespace Go.Proofs.Ytggecoekoilahaa
open Go.RowKit
set_option linter.unusedSimpArgs false
set_option linter.unusedVariables false

/-- Is one call ahead of another one? -/
def RC.ahead (a b : RC) : Bool := (a.to != -1) && decide (a.to < b.fr)

set_option maxHeartbeats 1000000 in
theorem ahead_any (a b : RC) (w : World) : Calls Try.prog 41 #[a.val, b.val] w fun e w' => e = .returned (.bool (a.ahead b)) ∧ Below w.heap.size w w' := by
  obtain ⟨cl, kd, key, va, vl, vc, fr, to, co, ga, gl, gc⟩ := a
  obtain ⟨cl', kd', key', va', vl', vc', fr', to', co', ga', gl', gc'⟩ := b
  simp only [RC.val, RC.ahead]
  go_enter Try.func41, Try.ntmps41
  go_upto_region 1 with fail
  refine wp_region_units (.step 0 (.step 1 (.step 2 (.step 3 (.unit 3 true (.step 4 (.step 5 (.step 6 (.step 7 (.step 8 .done))))) 9 8 (.step 10 .done)))))) (by kernel_rfl) (by kernel_rfl) ?_
  simp only [mkUT, dstOf, bare, Oper.slim, List.contains_cons, List.contains_nil, Option.map_none, Option.map_some, List.getElem?_toArray, List.getElem?_cons_zero, List.getElem?_cons_succ, Option.bind_some, beq_self_eq_true, Bool.or_false, Nat.reduceBEq, Nat.reduceAdd, Nat.zero_add, Option.getD_some, Option.isSome_some, Option.isSome_none, Bool.false_and, Bool.true_and, Bool.false_eq_true, if_false, if_true, Option.some_beq_some, Option.some_beq_none, Option.none_beq_some, reduceCtorEq, ite_true, ite_false]
  repeat ((with_reducible refine wpUT_step (fun K hK => ?_)); go_simp; first | (refine hK _ _ ?_; clear hK K) | (refine ⟨by (intro kk hkk; first | exact hkk.elim | (simp (disch := (simp; omega)) only [hp_drew, hp_drewN, hp_alloc, hp_set]; done) | (simp [hp_drew, hp_drewN, hp_alloc_if, hkk]; done) | fail), hK _ _ ?_⟩; clear hK K))
  refine wpUT_unit (x := ?_) (by rfl) ?_ ?_
  rotate_left
  · intro hgd
    repeat ((with_reducible refine wpUT_step (fun K hK => ?_)); go_simp; first | (refine hK _ _ ?_; clear hK K) | (refine ⟨by (intro kk hkk; first | exact hkk.elim | (simp (disch := (simp; omega)) only [hp_drew, hp_drewN, hp_alloc, hp_set]; done) | (simp [hp_drew, hp_drewN, hp_alloc_if, hkk]; done) | fail), hK _ _ ?_⟩; clear hK K))
    exact wpUT_done ⟨by rfl, rfl⟩
  intro js
  simp only [UT.dsts, junk, SOp.dst, Option.toList_some, Option.toList_none, List.cons_append, List.nil_append, List.append_nil, cond_true, cond_false]
  repeat ((with_reducible refine wpUT_step (fun K hK => ?_)); go_simp; first | (refine hK _ _ ?_; clear hK K) | (refine ⟨by (intro kk hkk; first | exact hkk.elim | (simp (disch := (simp; omega)) only [hp_drew, hp_drewN, hp_alloc, hp_set]; done) | (simp [hp_drew, hp_drewN, hp_alloc_if, hkk]; done) | fail), hK _ _ ?_⟩; clear hK K))
  refine wpUT_done ?_
  go_wp2
  go_ret
  exact ⟨rfl, ((Below.refl _ _).alloc (Nat.le_refl _) _).alloc (by simp) _⟩
end Go.Proofs.Ytggecoekoilahaa
