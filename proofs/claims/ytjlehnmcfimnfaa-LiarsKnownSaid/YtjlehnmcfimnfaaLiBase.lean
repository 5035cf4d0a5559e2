/-
  The program's tally and the reference's: their simple methods.
-/
import Derived.Test.YtjlehnmcfimnfaaLiMap
import Derived.Test.YtjlehnmcfimnfaaInts
import Derived.Test.YtjlehnmcfimnfaaRegion3
import Derived.Test.YtjlehnmcfimnfaaPut2
import Derived.Deep.Cut
import Derived.Outline
namespace Go.Proofs.Ytjlehnmcfimnfaa
open Go.RowKit
set_option linter.unusedSimpArgs false
set_option linter.unusedVariables false

/-- The program's tally: its block, the map's, the nodes, the counts. -/
structure PT (w : World) (tb bm n : Nat) (C : Nat → Nat) : Prop where
  n1 : 1 ≤ n
  n2 : n ≤ 255
  C2 : ∀ k, C k ≤ 1000000
  tl : w.heap[tb]? = some (.cells #[.int .i64 n, .map (some bm)] 48 (0, 0))
  mp : CntI w bm n C
/-- The reference's. -/
structure RT (w : World) (tb g n : Nat) (C : Nat → Nat) : Prop where
  n1 : 1 ≤ n
  n2 : n ≤ 255
  C2 : ∀ k, C k ≤ 1000000
  tl : w.heap[tb]? = some (.cells #[.slice (some ⟨g, 0, none⟩) n n] 54 (0, 0))
  row : w.heap[g]? = some (.cells ((List.range n).map fun i => Value.int .i64 (C i : Nat)).toArray 3 (0, 0))
theorem PT.below {w w' : World} {tb bm n : Nat} {C : Nat → Nat} (h : PT w tb bm n C) (hb : Below w.heap.size w w') : PT w' tb bm n C := ⟨h.n1, h.n2, h.C2, keepB hb h.tl, h.mp.below hb⟩
theorem RT.below {w w' : World} {tb g n : Nat} {C : Nat → Nat} (h : RT w tb g n C) (hb : Below w.heap.size w w') : RT w' tb g n C := ⟨h.n1, h.n2, h.C2, keepB hb h.tl, keepB hb h.row⟩
theorem PT.kept {w w' : World} {tb bm n r : Nat} {C : Nat → Nat} (h : PT w tb bm n C) (hg : w.grownBy w' (some r)) (h1 : r ≠ tb) (h2 : r ≠ bm) : PT w' tb bm n C :=
  ⟨h.n1, h.n2, h.C2, (hg.block tb (lt_of_heap h.tl) (fun e => h1 (by cases e; rfl))).trans h.tl, h.mp.kept hg (fun e => h2 (by cases e; rfl))⟩
theorem RT.kept {w w' : World} {tb g n r : Nat} {C : Nat → Nat} (h : RT w tb g n C) (hg : w.grownBy w' (some r)) (h1 : r ≠ tb) (h2 : r ≠ g) : RT w' tb g n C :=
  ⟨h.n1, h.n2, h.C2, (hg.block tb (lt_of_heap h.tl) (fun e => h1 (by cases e; rfl))).trans h.tl, (hg.block g (lt_of_heap h.row) (fun e => h2 (by cases e; rfl))).trans h.row⟩
theorem PT.cells {w : World} {tb bm n : Nat} {C : Nat → Nat} (h : PT w tb bm n C) : w.cell? ⟨tb, 0, none⟩ = some (.int .i64 n) ∧ w.cell? ⟨tb, 1, none⟩ = some (.map (some bm)) := by
  have := h.tl
  constructor <;> (unfold World.cell?; simp [this])
theorem RT.cells {w : World} {tb g n : Nat} {C : Nat → Nat} (h : RT w tb g n C) : w.cell? ⟨tb, 0, none⟩ = some (.slice (some ⟨g, 0, none⟩) n n) ∧ ∀ k, k < n → w.cell? ⟨g, k, none⟩ = some (.int .i64 (C k : Nat)) ∧ w.frozen? ⟨g, k, none⟩ = false := by
  have h1 := h.tl
  have h2 := h.row
  refine ⟨by unfold World.cell?; simp [h1], fun k hk => ⟨?_, ?_⟩⟩
  · unfold World.cell?; simp [h2, hk]
  · unfold World.frozen?; simp [h2]

/-- Is a number a node? -/
def isN (n : Nat) (x : Int) : Bool := decide (0 ≤ x) && decide (x < n)
theorem isN_iff (n : Nat) (x : Int) : isN n x = true ↔ 0 ≤ x ∧ x < n := by simp [isN]
theorem isN_not (n : Nat) (x : Int) : isN n x = false ↔ ¬ (0 ≤ x ∧ x < n) := by rw [← isN_iff]; simp
/-- A node's count; 0, if it is none. -/
def cntN (n : Nat) (C : Nat → Nat) (x : Int) : Nat := if 0 ≤ x ∧ x < n then C x.toNat else 0

set_option maxHeartbeats 400000 in
theorem pis_any (tb bm n : Nat) (C : Nat → Nat) (x : Int) (w : World) (h : PT w tb bm n C) :
    Calls Try.prog 27 #[.pointer (some ⟨tb, 0, none⟩), .int .i64 x] w fun e w' => e = .returned (.bool (isN n x)) ∧ w = w' := by
  obtain ⟨c0, c1⟩ := h.cells
  have hn2 := h.n2
  unfold isN
  go_enter Try.func27, Try.ntmps27
  go_upto_region 1 with fail
  refine wp_region_units (.step 0 (.step 1 (.step 2 (.unit 2 true (.step 3 (.step 4 .done)) 5 4 (.step 6 (.unit 6 true (.step 7 (.step 8 (.step 9 (.step 10 (.step 11 (.step 12 .done)))))) 13 12 (.step 14 .done))))))) (by kernel_rfl) (by kernel_rfl) ?_
  simp only [mkUT, dstOf, bare, Oper.slim, List.contains_cons, List.contains_nil, Option.map_none, Option.map_some, List.getElem?_toArray, List.getElem?_cons_zero, List.getElem?_cons_succ, Option.bind_some, beq_self_eq_true, Bool.or_false, Nat.reduceBEq, Nat.reduceAdd, Nat.zero_add, Option.getD_some, Option.isSome_some, Option.isSome_none, Bool.false_and, Bool.true_and, Bool.false_eq_true, if_false, if_true, Option.some_beq_some, Option.some_beq_none, Option.none_beq_some, reduceCtorEq, ite_true, ite_false]
  repeat ((with_reducible refine wpUT_step (fun K hK => ?_)); go_simp; first | (refine hK _ _ ?_; clear hK K) | (refine ⟨by (intro kk hkk; first | exact hkk.elim | (simp (disch := (simp; omega)) only [hp_drew, hp_drewN, hp_alloc, hp_set]; done) | (simp [hp_drew, hp_drewN, hp_alloc_if, hkk]; done) | fail), hK _ _ ?_⟩; clear hK K))
  refine wpUT_unit (x := ?_) (by rfl) ?_ ?_
  rotate_left
  · intro hgd
    repeat ((with_reducible refine wpUT_step (fun K hK => ?_)); go_simp; first | (refine hK _ _ ?_; clear hK K) | (refine ⟨by (intro kk hkk; first | exact hkk.elim | (simp (disch := (simp; omega)) only [hp_drew, hp_drewN, hp_alloc, hp_set]; done) | (simp [hp_drew, hp_drewN, hp_alloc_if, hkk]; done) | fail), hK _ _ ?_⟩; clear hK K))
    exact wpUT_done ⟨by rfl, rfl⟩
  intro js
  simp only [UT.dsts, junk, SOp.dst, Option.toList_some, Option.toList_none, List.cons_append, List.nil_append, List.append_nil, cond_true, cond_false]
  repeat ((with_reducible refine wpUT_step (fun K hK => ?_)); go_simp; first | (refine hK _ _ ?_; clear hK K) | (refine ⟨by (intro kk hkk; first | exact hkk.elim | (simp (disch := (simp; omega)) only [hp_drew, hp_drewN, hp_alloc, hp_set]; done) | (simp [hp_drew, hp_drewN, hp_alloc_if, hkk]; done) | fail), hK _ _ ?_⟩; clear hK K))
  refine wpUT_unit (x := ?_) (by rfl) ?_ ?_
  rotate_left
  · intro hgd
    repeat ((with_reducible refine wpUT_step (fun K hK => ?_)); go_simp; first | (refine hK _ _ ?_; clear hK K) | (refine ⟨by (intro kk hkk; first | exact hkk.elim | (simp (disch := (simp; omega)) only [hp_drew, hp_drewN, hp_alloc, hp_set]; done) | (simp [hp_drew, hp_drewN, hp_alloc_if, hkk]; done) | fail), hK _ _ ?_⟩; clear hK K))
    exact wpUT_done ⟨by rfl, rfl⟩
  intro js
  simp only [UT.dsts, junk, SOp.dst, Option.toList_some, Option.toList_none, List.cons_append, List.nil_append, List.append_nil, cond_true, cond_false]
  repeat ((with_reducible refine wpUT_step (fun K hK => ?_)); go_simp; first | (refine hK _ _ ?_; clear hK K) | (refine ⟨by (intro kk hkk; first | exact hkk.elim | (simp (disch := (simp; omega)) only [hp_drew, hp_drewN, hp_alloc, hp_set]; done) | (simp [hp_drew, hp_drewN, hp_alloc_if, hkk]; done) | fail), hK _ _ ?_⟩; clear hK K))
  refine wpUT_done ?_
  go_wp2
  go_ret
  exact ⟨rfl, rfl⟩
set_option maxHeartbeats 400000 in
theorem pis_nil (x : Int) (w : World) :
    Calls Try.prog 27 #[.pointer none, .int .i64 x] w fun e w' => e = .returned (.bool false) ∧ w = w' := by
  go_enter Try.func27, Try.ntmps27
  go_wp2
  go_ret
  exact ⟨rfl, rfl⟩
set_option maxHeartbeats 400000 in
theorem ris_any (tb g n : Nat) (C : Nat → Nat) (x : Int) (w : World) (h : RT w tb g n C) :
    Calls Try.prog 30 #[.pointer (some ⟨tb, 0, none⟩), .int .i64 x] w fun e w' => e = .returned (.bool (isN n x)) ∧ w = w' := by
  have c0 := h.cells.1
  have hn2 := h.n2
  unfold isN
  go_enter Try.func30, Try.ntmps30
  go_upto_region 1 with fail
  refine wp_region_units (.step 0 (.step 1 (.step 2 (.unit 2 true (.step 3 (.step 4 (.step 5 (.step 6 (.step 7 (.step 8 (.step 9 .done))))))) 10 9 (.step 11 .done))))) (by kernel_rfl) (by kernel_rfl) ?_
  simp only [mkUT, dstOf, bare, Oper.slim, List.contains_cons, List.contains_nil, Option.map_none, Option.map_some, List.getElem?_toArray, List.getElem?_cons_zero, List.getElem?_cons_succ, Option.bind_some, beq_self_eq_true, Bool.or_false, Nat.reduceBEq, Nat.reduceAdd, Nat.zero_add, Option.getD_some, Option.isSome_some, Option.isSome_none, Bool.false_and, Bool.true_and, Bool.false_eq_true, if_false, if_true, Option.some_beq_some, Option.some_beq_none, Option.none_beq_some, reduceCtorEq, ite_true, ite_false]
  repeat ((with_reducible refine wpUT_step (fun K hK => ?_)); go_simp; first | (refine hK _ _ ?_; clear hK K) | (refine ⟨by (intro kk hkk; first | exact hkk.elim | (simp (disch := (simp; omega)) only [hp_drew, hp_drewN, hp_alloc, hp_set]; done) | (simp [hp_drew, hp_drewN, hp_alloc_if, hkk]; done) | fail), hK _ _ ?_⟩; clear hK K))
  refine wpUT_unit (x := ?_) (by rfl) ?_ ?_
  rotate_left
  · intro hgd
    repeat ((with_reducible refine wpUT_step (fun K hK => ?_)); go_simp; first | (refine hK _ _ ?_; clear hK K) | (refine ⟨by (intro kk hkk; first | exact hkk.elim | (simp (disch := (simp; omega)) only [hp_drew, hp_drewN, hp_alloc, hp_set]; done) | (simp [hp_drew, hp_drewN, hp_alloc_if, hkk]; done) | fail), hK _ _ ?_⟩; clear hK K))
    exact wpUT_done ⟨by rfl, rfl⟩
  intro js
  simp only [UT.dsts, junk, SOp.dst, Option.toList_some, Option.toList_none, List.cons_append, List.nil_append, List.append_nil, cond_true, cond_false]
  repeat ((with_reducible refine wpUT_step (fun K hK => ?_)); go_simp; first | (refine hK _ _ ?_; clear hK K) | (refine ⟨by (intro kk hkk; first | exact hkk.elim | (simp (disch := (simp; omega)) only [hp_drew, hp_drewN, hp_alloc, hp_set]; done) | (simp [hp_drew, hp_drewN, hp_alloc_if, hkk]; done) | fail), hK _ _ ?_⟩; clear hK K))
  refine wpUT_done ?_
  go_wp2
  go_ret
  exact ⟨rfl, rfl⟩
end Go.Proofs.Ytjlehnmcfimnfaa
