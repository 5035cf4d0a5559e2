/-
  The reference's Counts.
-/
import Derived.Test.YtggecoekoilahaaIdBase
namespace Go.Proofs.Ytggecoekoilahaa
open Go.RowKit
set_option linter.unusedSimpArgs false
set_option linter.unusedVariables false

set_option maxHeartbeats 1000000 in
theorem rcounts_any (c : RC) (w : World) : Calls Try.prog 16 #[c.val] w fun e w' => e = .returned (.bool c.counts) ∧ Below w.heap.size w w' := by
  obtain ⟨cl, kd, key, va, vl, vc, fr, to, co, ga, gl, gc⟩ := c
  simp only [RC.val]
  by_cases h2 : kd = 2
  · have f1 : (kd == 2) = true := by simpa using h2
    have e1 : RC.counts ⟨cl, kd, key, va, vl, vc, fr, to, co, ga, gl, gc⟩ = (to != -1 && (co == 0 || co == 5)) := by simp [RC.counts, h2]
    rw [e1]
    clear e1 h2
    go_enter Try.func16, Try.ntmps16
    go_upto_region 2 with fail
    refine wp_region_units (.step 0 (.step 1 (.step 2 (.step 3 (.unit 3 true (.step 4 (.step 5 (.step 6 (.step 7 (.unit 7 false (.step 8 (.step 9 (.step 10 .done))) 11 10 .done))))) 12 11 (.step 13 .done)))))) (by kernel_rfl) (by kernel_rfl) ?_
    simp only [mkUT, dstOf, bare, Oper.slim, List.contains_cons, List.contains_nil, Option.map_none, Option.map_some, List.getElem?_toArray, List.getElem?_cons_zero, List.getElem?_cons_succ, Option.bind_some, beq_self_eq_true, Bool.or_false, Nat.reduceBEq, Nat.reduceAdd, Nat.zero_add, Option.getD_some, Option.isSome_some, Option.isSome_none, Bool.false_and, Bool.true_and, Bool.false_eq_true, if_false, if_true, Option.some_beq_some, Option.some_beq_none, Option.none_beq_some, reduceCtorEq, ite_true, ite_false]
    repeat ((with_reducible refine wpUT_step (fun K hK => ?_)); go_simp; first | (refine hK _ _ ?_; clear hK K) | (refine ⟨by (intro kk hkk; first | exact hkk.elim | (simp (disch := (simp; omega)) only [hp_drew, hp_drewN, hp_alloc, hp_set]; done) | (simp [hp_drew, hp_drewN, hp_alloc_if, hkk]; done) | fail), hK _ _ ?_⟩; clear hK K))
    refine wpUT_unit (x := ?_) (by rfl) ?_ ?_
    rotate_left
    · intro hgd
      repeat ((with_reducible refine wpUT_step (fun K hK => ?_)); go_simp; first | (refine hK _ _ ?_; clear hK K) | (refine ⟨by (intro kk hkk; first | exact hkk.elim | (simp (disch := (simp; omega)) only [hp_drew, hp_drewN, hp_alloc, hp_set]; done) | (simp [hp_drew, hp_drewN, hp_alloc_if, hkk]; done) | fail), hK _ _ ?_⟩; clear hK K))
      refine wpUT_unit (x := ?_) (by rfl) ?_ ?_
      rotate_left
      · intro hgd
        repeat ((with_reducible refine wpUT_step (fun K hK => ?_)); go_simp; first | (refine hK _ _ ?_; clear hK K) | (refine ⟨by (intro kk hkk; first | exact hkk.elim | (simp (disch := (simp; omega)) only [hp_drew, hp_drewN, hp_alloc, hp_set]; done) | (simp [hp_drew, hp_drewN, hp_alloc_if, hkk]; done) | fail), hK _ _ ?_⟩; clear hK K))
        exact wpUT_done ⟨by rfl, rfl⟩
      intro js
      simp only [UT.dsts, junk, SOp.dst, Option.toList_some, Option.toList_none, List.cons_append, List.nil_append, List.append_nil, cond_true, cond_false]
      try go_simp
      exact wpUT_done ⟨by rfl, rfl⟩
    intro js
    simp only [UT.dsts, junk, SOp.dst, Option.toList_some, Option.toList_none, List.cons_append, List.nil_append, List.append_nil, cond_true, cond_false]
    repeat ((with_reducible refine wpUT_step (fun K hK => ?_)); go_simp; first | (refine hK _ _ ?_; clear hK K) | (refine ⟨by (intro kk hkk; first | exact hkk.elim | (simp (disch := (simp; omega)) only [hp_drew, hp_drewN, hp_alloc, hp_set]; done) | (simp [hp_drew, hp_drewN, hp_alloc_if, hkk]; done) | fail), hK _ _ ?_⟩; clear hK K))
    refine wpUT_done ?_
    go_wp2
    go_ret
    exact ⟨rfl, (Below.refl _ _).alloc (Nat.le_refl _) _⟩
  · have f1 : (kd == 2) = false := by simpa using h2
    have e1 : RC.counts ⟨cl, kd, key, va, vl, vc, fr, to, co, ga, gl, gc⟩ = ((kd == 1 || kd == 3) && (to == -1 || co == 0)) := by
      simp only [RC.counts, h2, if_false]
      by_cases h : kd = 1 ∨ kd = 3
      · rw [if_pos h]
        rcases h with h | h <;> simp [h]
      · rw [if_neg h]
        have h1 : ¬ kd = 1 := fun e => h (.inl e)
        have h3 : ¬ kd = 3 := fun e => h (.inr e)
        simp [h1, h3]
    rw [e1]
    clear e1 h2
    go_enter Try.func16, Try.ntmps16
    go_upto_region 3 with fail
    refine wp_region_units (.step 0 (.step 1 (.step 2 (.step 3 (.unit 3 false (.step 4 (.step 5 (.step 6 .done))) 7 6 (.step 8 (.unit 8 true (.step 9 (.step 10 (.step 11 (.step 12 (.unit 12 false (.step 13 (.step 14 (.step 15 .done))) 16 15 .done))))) 17 16 (.step 18 .done)))))))) (by kernel_rfl) (by kernel_rfl) ?_
    simp only [mkUT, dstOf, bare, Oper.slim, List.contains_cons, List.contains_nil, Option.map_none, Option.map_some, List.getElem?_toArray, List.getElem?_cons_zero, List.getElem?_cons_succ, Option.bind_some, beq_self_eq_true, Bool.or_false, Nat.reduceBEq, Nat.reduceAdd, Nat.zero_add, Option.getD_some, Option.isSome_some, Option.isSome_none, Bool.false_and, Bool.true_and, Bool.false_eq_true, if_false, if_true, Option.some_beq_some, Option.some_beq_none, Option.none_beq_some, reduceCtorEq, ite_true, ite_false]
    repeat ((with_reducible refine wpUT_step (fun K hK => ?_)); go_simp; first | (refine hK _ _ ?_; clear hK K) | (refine ⟨by (intro kk hkk; first | exact hkk.elim | (simp (disch := (simp; omega)) only [hp_drew, hp_drewN, hp_alloc, hp_set]; done) | (simp [hp_drew, hp_drewN, hp_alloc_if, hkk]; done) | fail), hK _ _ ?_⟩; clear hK K))
    refine wpUT_unit (x := ?_) (by rfl) ?_ ?_
    rotate_left
    · intro hgd
      repeat ((with_reducible refine wpUT_step (fun K hK => ?_)); go_simp; first | (refine hK _ _ ?_; clear hK K) | (refine ⟨by (intro kk hkk; first | exact hkk.elim | (simp (disch := (simp; omega)) only [hp_drew, hp_drewN, hp_alloc, hp_set]; done) | (simp [hp_drew, hp_drewN, hp_alloc_if, hkk]; done) | fail), hK _ _ ?_⟩; clear hK K))
      exact wpUT_done ⟨by rfl, rfl⟩
    intro js
    simp only [UT.dsts, junk, SOp.dst, Option.toList_some, Option.toList_none, List.cons_append, List.nil_append, List.append_nil, cond_true, cond_false]
    repeat ((with_reducible refine wpUT_step (fun K hK => ?_)); go_simp; first | (refine hK _ _ ?_; clear hK K) | (refine ⟨by (intro kk hkk; first | exact hkk.elim | (simp (disch := (simp; omega)) only [hp_drew, hp_drewN, hp_alloc, hp_set]; done) | (simp [hp_drew, hp_drewN, hp_alloc_if, hkk]; done) | fail), hK _ _ ?_⟩; clear hK K))
    refine wpUT_unit (x := ?_) (by rfl) ?_ ?_
    rotate_left
    · intro hgd
      repeat ((with_reducible refine wpUT_step (fun K hK => ?_)); go_simp; first | (refine hK _ _ ?_; clear hK K) | (refine ⟨by (intro kk hkk; first | exact hkk.elim | (simp (disch := (simp; omega)) only [hp_drew, hp_drewN, hp_alloc, hp_set]; done) | (simp [hp_drew, hp_drewN, hp_alloc_if, hkk]; done) | fail), hK _ _ ?_⟩; clear hK K))
      refine wpUT_unit (x := ?_) (by rfl) ?_ ?_
      rotate_left
      · intro hgd
        repeat ((with_reducible refine wpUT_step (fun K hK => ?_)); go_simp; first | (refine hK _ _ ?_; clear hK K) | (refine ⟨by (intro kk hkk; first | exact hkk.elim | (simp (disch := (simp; omega)) only [hp_drew, hp_drewN, hp_alloc, hp_set]; done) | (simp [hp_drew, hp_drewN, hp_alloc_if, hkk]; done) | fail), hK _ _ ?_⟩; clear hK K))
        exact wpUT_done ⟨by rfl, rfl⟩
      intro js
      simp only [UT.dsts, junk, SOp.dst, Option.toList_some, Option.toList_none, List.cons_append, List.nil_append, List.append_nil, cond_true, cond_false]
      try go_simp
      exact wpUT_done ⟨by rfl, rfl⟩
    intro js
    simp only [UT.dsts, junk, SOp.dst, Option.toList_some, Option.toList_none, List.cons_append, List.nil_append, List.append_nil, cond_true, cond_false]
    repeat ((with_reducible refine wpUT_step (fun K hK => ?_)); go_simp; first | (refine hK _ _ ?_; clear hK K) | (refine ⟨by (intro kk hkk; first | exact hkk.elim | (simp (disch := (simp; omega)) only [hp_drew, hp_drewN, hp_alloc, hp_set]; done) | (simp [hp_drew, hp_drewN, hp_alloc_if, hkk]; done) | fail), hK _ _ ?_⟩; clear hK K))
    refine wpUT_done ?_
    go_wp2
    go_ret
    exact ⟨rfl, (Below.refl _ _).alloc (Nat.le_refl _) _⟩
end Go.Proofs.Ytggecoekoilahaa
