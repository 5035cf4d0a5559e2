/-
  Small callees of the search: is a call ahead of another one; bytes.Equal.
-/
import Derived.Test.YtggecoekoilahaaIdBits
import Derived.Test.YtggecoekoilahaaBytes
namespace Go.Proofs.Ytggecoekoilahaa
open Go.RowKit
set_option linter.unusedSimpArgs false
set_option linter.unusedVariables false

set_option maxHeartbeats 1000000 in
theorem held_any (a : RC) (fr : Int) (g : Nat) (w : World) (hc : w.cell? ⟨g, 4, none⟩ = some (.int .i64 fr)) (hg : g < w.heap.size) :
    Calls Try.prog 34 #[a.val, .pointer (some ⟨g, 0, none⟩)] w fun e w' => e = .returned (.bool ((a.to != -1) && decide (a.to < fr))) ∧ Below w.heap.size w w' := by
  obtain ⟨cl, kd, key, va, vl, vc, fr', to, co, ga, gl, gc⟩ := a
  simp only [RC.val]
  go_enter Try.func34, Try.ntmps34
  go_upto_region 1 with fail
  refine wp_region_units (.step 0 (.step 1 (.step 2 (.step 3 (.unit 3 true (.step 4 (.step 5 (.step 6 (.step 7 (.step 8 .done))))) 9 8 (.step 10 .done)))))) (by kernel_rfl) (by kernel_rfl) ?_
  simp only [mkUT, dstOf, bare, Oper.slim, List.contains_cons, List.contains_nil, Option.map_none, Option.map_some, List.getElem?_toArray, List.getElem?_cons_zero, List.getElem?_cons_succ, Option.bind_some, beq_self_eq_true, Bool.or_false, Nat.reduceBEq, Nat.reduceAdd, Nat.zero_add, Option.getD_some, Option.isSome_some, Option.isSome_none, Bool.false_and, Bool.true_and, Bool.false_eq_true, if_false, if_true, Option.some_beq_some, Option.some_beq_none, Option.none_beq_some, reduceCtorEq, ite_true, ite_false]
  repeat ((with_reducible refine wpUT_step (fun K hK => ?_)); go_simp; first | (refine hK _ _ ?_; clear hK K) | (refine ⟨by (intro kk hkk; first | exact hkk.elim | (simp (disch := (simp; omega)) only [hp_drew, hp_drewN, hp_alloc, hp_set]; done) | (simp [hp_drew, hp_drewN, hp_alloc_if, hkk]; done) | fail), hK _ _ ?_⟩; clear hK K))
  refine wpUT_unit (x := ?_) (by rfl) ?_ ?_
  rotate_left
  · intro hgd
    repeat ((with_reducible refine wpUT_step (fun K hK => ?_)); go_simp; first | (refine hK _ _ ?_; clear hK K) | (refine ⟨by (intro kk hkk; first | exact hkk.elim | (simp (disch := (simp; omega)) only [hp_drew, hp_drewN, hp_alloc, hp_set]; done) | (simp [hp_drew, hp_drewN, hp_alloc_if, hkk]; done) | fail), hK _ _ ?_⟩; clear hK K))
    exact wpUT_done ⟨by rfl, rfl⟩
  intro js
  simp only [UT.dsts, junk, SOp.dst, Option.toList_some, Option.toList_none, List.cons_append, List.nil_append, List.append_nil, cond_true, cond_false]
  repeat ((with_reducible refine wpUT_step (fun K hK => ?_)); go_simp; first | (refine hK _ _ ?_; clear hK K) | (refine ⟨by (intro kk hkk; first | exact hkk.elim | (simp (disch := (simp; omega)) only [hp_drew, hp_drewN, hp_alloc, hp_set]; done) | (simp [hp_drew, hp_drewN, hp_alloc_if, hkk]; done) | fail), hK _ _ ?_⟩; clear hK K))
  refine wpUT_done ?_
  go_wp2
  go_ret
  exact ⟨rfl, (Below.refl _ _).alloc (Nat.le_refl _) _⟩

set_option maxHeartbeats 400000 in
theorem bytes_equal (u v : Value) (l m : List Nat) (w : World) (hu : BytesRd w u l) (hv : BytesRd w v m) :
    Calls Try.prog 35 #[u, v] w fun e w' => e = .returned (.bool (decide (l = m))) ∧ w = w' := by
  have cu := hu.conv
  have cv := hv.conv
  have hd : decide (l = m) = decide (strOf l = strOf m) := by rw [decide_eq_decide]; exact (strOf_inj hu.1 hv.1).symm
  rw [hd]
  clear hd hu hv
  go_enter Try.func35, Try.ntmps35
  go_wp2
  go_ret
  refine ⟨?_, rfl⟩
  rw [ByteArray.toList_eq, ByteArray.toList_eq]
  by_cases h : strOf l = strOf m
  · rw [decide_eq_true h, h]; simp
  · rw [decide_eq_false h]
    have : (strOf l).data.toList ≠ (strOf m).data.toList := fun e => h (by
      have e2 : (strOf l).data = (strOf m).data := Array.toList_inj.1 e
      cases h1 : strOf l; cases h2 : strOf m; rw [h1, h2] at e2; simp only at e2; rw [e2])
    rw [beq_false_of_ne this]
    rfl
end Go.Proofs.Ytggecoekoilahaa
