/-
  Calls of a history as they lie in memory: eight cells each.
-/
import Derived.Test.YtggecoekoilahaaBytes
import Derived.Test.YtggecoekoilahaaRegion3
import Derived.Test.YtggecoekoilahaaPut2
import Derived.Deep.Cut
import Derived.Deep.Draws
import Derived.Outline
namespace Go.Proofs.Ytggecoekoilahaa
open Go.RowKit
set_option linter.unusedSimpArgs false
set_option linter.unusedVariables false

/-- A call, as it lies in memory. -/
structure RC where
  cl : Int
  kd : Int
  key : ByteArray
  va : Option Addr
  vl : Nat
  vc : Nat
  fr : Int
  to : Int
  co : Int
  ga : Option Addr
  gl : Nat
  gc : Nat

def RC.cells (c : RC) : List Value := [.int .i64 c.cl, .int .u8 c.kd, .string c.key, .slice c.va c.vl c.vc, .int .i64 c.fr, .int .i64 c.to, .int .i64 c.co, .slice c.ga c.gl c.gc]
abbrev RC.val (c : RC) : Value := .agg #[.int .i64 c.cl, .int .u8 c.kd, .string c.key, .slice c.va c.vl c.vc, .int .i64 c.fr, .int .i64 c.to, .int .i64 c.co, .slice c.ga c.gl c.gc]

/-- A row of calls that is read. -/
def RowRd (w : World) (v : Value) (l : List RC) : Prop :=
  ∃ a cap, v = .slice a l.length cap ∧ l.length ≤ cap ∧ (l ≠ [] → ∃ b o, a = some ⟨b, o, none⟩ ∧ b < w.heap.size ∧ ∀ i c, l[i]? = some c → ∀ j u, c.cells[j]? = some u → w.cell? ⟨b, o + i * 8 + j, none⟩ = some u)

theorem RowRd.below {w w' : World} {v : Value} {l : List RC} (h : RowRd w v l) (hb : Below w.heap.size w w') : RowRd w' v l := by
  obtain ⟨a, cap, h1, h2, h3⟩ := h
  refine ⟨a, cap, h1, h2, fun hne => ?_⟩
  obtain ⟨b, o, h4, h5, h6⟩ := h3 hne
  exact ⟨b, o, h4, Nat.lt_of_lt_of_le h5 hb.size, fun i c hi j u hj => (hb.cell (p := ⟨b, o + i * 8 + j, none⟩) h5).trans (h6 i c hi j u hj)⟩

theorem RowRd.form {w : World} {v : Value} {l : List RC} (h : RowRd w v l) : ∃ a cap, v = .slice a l.length cap := by
  obtain ⟨a, cap, h1, _⟩ := h
  exact ⟨a, cap, h1⟩

/-- One call of a row. -/
theorem RowRd.at {w : World} {a : Option Addr} {n cap : Nat} {l : List RC} (h : RowRd w (.slice a n cap) l) {i : Nat} {c : RC} (hi : l[i]? = some c) : n = l.length ∧ ∃ b o, a = some ⟨b, o, none⟩ ∧ b < w.heap.size ∧
    w.cell? ⟨b, o + i * 8, none⟩ = some (.int .i64 c.cl) ∧ w.cell? ⟨b, o + i * 8 + 1, none⟩ = some (.int .u8 c.kd) ∧ w.cell? ⟨b, o + i * 8 + 2, none⟩ = some (.string c.key) ∧
    w.cell? ⟨b, o + i * 8 + 3, none⟩ = some (.slice c.va c.vl c.vc) ∧ w.cell? ⟨b, o + i * 8 + 4, none⟩ = some (.int .i64 c.fr) ∧ w.cell? ⟨b, o + i * 8 + 5, none⟩ = some (.int .i64 c.to) ∧
    w.cell? ⟨b, o + i * 8 + 6, none⟩ = some (.int .i64 c.co) ∧ w.cell? ⟨b, o + i * 8 + 7, none⟩ = some (.slice c.ga c.gl c.gc) := by
  obtain ⟨a', cap', h1, h2, h3⟩ := h
  cases h1
  obtain ⟨b, o, h4, h5, h6⟩ := h3 (fun e => by rw [e] at hi; simp at hi)
  exact ⟨rfl, b, o, h4, h5, h6 i c hi 0 _ rfl, h6 i c hi 1 _ rfl, h6 i c hi 2 _ rfl, h6 i c hi 3 _ rfl, h6 i c hi 4 _ rfl, h6 i c hi 5 _ rfl, h6 i c hi 6 _ rfl, h6 i c hi 7 _ rfl⟩

/-- Does it count? -/
def RC.counts (c : RC) : Bool := if c.kd = 2 then c.to != -1 && (c.co == 0 || c.co == 5) else if c.kd = 1 ∨ c.kd = 3 then c.to == -1 || c.co == 0 else false

set_option maxHeartbeats 1000000 in
theorem counts_any (c : RC) (w : World) : Calls Try.prog 11 #[c.val] w fun e w' => e = .returned (.bool c.counts) ∧ Below w.heap.size w w' := by
  obtain ⟨cl, kd, key, va, vl, vc, fr, to, co, ga, gl, gc⟩ := c
  simp only [RC.val]
  by_cases h2 : kd = 2
  · have f1 : (kd == 2) = true := by simpa using h2
    have e1 : RC.counts ⟨cl, kd, key, va, vl, vc, fr, to, co, ga, gl, gc⟩ = (to != -1 && (co == 0 || co == 5)) := by simp [RC.counts, h2]
    rw [e1]
    clear e1 h2
    go_enter Try.func11, Try.ntmps11
    go_upto_region 3 with fail
    refine wp_region_units (.step 0 (.step 1 (.step 2 (.step 3 (.unit 3 true (.step 4 (.step 5 (.step 6 (.step 7 (.unit 7 false (.step 8 (.step 9 (.step 10 .done))) 11 10 .done))))) 12 11 (.step 13 .done)))))) (by kernel_rfl) (by kernel_rfl) ?_
    simp only [mkUT, dstOf, bare, Oper.slim, List.contains_cons, List.contains_nil, Option.map_none, Option.map_some, List.getElem?_toArray, List.getElem?_cons_zero, List.getElem?_cons_succ, Option.bind_some, beq_self_eq_true, Bool.or_false, Nat.reduceBEq, Nat.reduceAdd, Nat.zero_add, Option.getD_some, Option.isSome_some, Option.isSome_none, Bool.false_and, Bool.true_and, Bool.false_eq_true, if_false, if_true, Option.some_beq_some, Option.some_beq_none, Option.none_beq_some, reduceCtorEq, ite_true, ite_false]
    repeat ((with_reducible refine wpUT_step (fun K hK => ?_)); go_simp; first | (refine hK _ _ ?_; clear hK K) | (refine ⟨by (intro kk hkk; first | exact hkk.elim | (simp (disch := (simp; omega)) only [hp_drew, hp_drewN, hp_alloc, hp_set]; done) | (simp [hp_drew, hp_drewN, hp_alloc_if, hkk]; done) | fail), hK _ _ ?_⟩; clear hK K))
    refine wpUT_unit (x := ?_) (by rfl) ?_ ?_
    rotate_left
    · intro hgd
      repeat ((with_reducible refine wpUT_step (fun K hK => ?_)); go_simp; first | (refine hK _ _ ?_; clear hK K) | (refine ⟨by (intro kk hkk; first | exact hkk.elim | (simp (disch := (simp; omega)) only [hp_drew, hp_drewN, hp_alloc, hp_set]; done) | (simp [hp_drew, hp_drewN, hp_alloc_if, hkk]; done) | fail), hK _ _ ?_⟩; clear hK K))
      refine wpUT_unit (x := ?_) (by rfl) ?_ ?_
      rotate_left
      · intro hgd
        repeat ((with_reducible refine wpUT_step (fun K hK => ?_)); go_simp; first | (refine hK _ _ ?_; clear hK K) | (refine ⟨by (intro kk hkk; first | exact hkk.elim | (simp (disch := (simp; omega)) only [hp_drew, hp_drewN, hp_alloc, hp_set]; done) | (simp [hp_drew, hp_drewN, hp_alloc_if, hkk]; done) | fail), hK _ _ ?_⟩; clear hK K))
        exact wpUT_done ⟨by rfl, rfl⟩
      intro js
      simp only [UT.dsts, junk, SOp.dst, Option.toList_some, Option.toList_none, List.cons_append, List.nil_append, List.append_nil, cond_true, cond_false]
      try go_simp
      exact wpUT_done ⟨by rfl, rfl⟩
    intro js
    simp only [UT.dsts, junk, SOp.dst, Option.toList_some, Option.toList_none, List.cons_append, List.nil_append, List.append_nil, cond_true, cond_false]
    repeat ((with_reducible refine wpUT_step (fun K hK => ?_)); go_simp; first | (refine hK _ _ ?_; clear hK K) | (refine ⟨by (intro kk hkk; first | exact hkk.elim | (simp (disch := (simp; omega)) only [hp_drew, hp_drewN, hp_alloc, hp_set]; done) | (simp [hp_drew, hp_drewN, hp_alloc_if, hkk]; done) | fail), hK _ _ ?_⟩; clear hK K))
    refine wpUT_done ?_
    go_wp2
    go_ret
    exact ⟨rfl, (Below.refl _ _).alloc (Nat.le_refl _) _⟩
  have f1 : (kd == 2) = false := by simpa using h2
  by_cases h1 : kd = 1
  · have f2 : (kd == 1) = true := by simpa using h1
    have e1 : RC.counts ⟨cl, kd, key, va, vl, vc, fr, to, co, ga, gl, gc⟩ = (to == -1 || co == 0) := by simp [RC.counts, h1]
    rw [e1]
    clear e1 h1 h2
    go_enter Try.func11, Try.ntmps11
    go_upto_region 6 with fail
    refine wp_region_units (.step 0 (.step 1 (.step 2 (.step 3 (.unit 3 false (.step 4 (.step 5 (.step 6 .done))) 7 6 (.step 8 .done)))))) (by kernel_rfl) (by kernel_rfl) ?_
    simp only [mkUT, dstOf, bare, Oper.slim, List.contains_cons, List.contains_nil, Option.map_none, Option.map_some, List.getElem?_toArray, List.getElem?_cons_zero, List.getElem?_cons_succ, Option.bind_some, beq_self_eq_true, Bool.or_false, Nat.reduceBEq, Nat.reduceAdd, Nat.zero_add, Option.getD_some, Option.isSome_some, Option.isSome_none, Bool.false_and, Bool.true_and, Bool.false_eq_true, if_false, if_true, Option.some_beq_some, Option.some_beq_none, Option.none_beq_some, reduceCtorEq, ite_true, ite_false]
    repeat ((with_reducible refine wpUT_step (fun K hK => ?_)); go_simp; first | (refine hK _ _ ?_; clear hK K) | (refine ⟨by (intro kk hkk; first | exact hkk.elim | (simp (disch := (simp; omega)) only [hp_drew, hp_drewN, hp_alloc, hp_set]; done) | (simp [hp_drew, hp_drewN, hp_alloc_if, hkk]; done) | fail), hK _ _ ?_⟩; clear hK K))
    refine wpUT_unit (x := ?_) (by rfl) ?_ ?_
    rotate_left
    · intro hgd
      repeat ((with_reducible refine wpUT_step (fun K hK => ?_)); go_simp; first | (refine hK _ _ ?_; clear hK K) | (refine ⟨by (intro kk hkk; first | exact hkk.elim | (simp (disch := (simp; omega)) only [hp_drew, hp_drewN, hp_alloc, hp_set]; done) | (simp [hp_drew, hp_drewN, hp_alloc_if, hkk]; done) | fail), hK _ _ ?_⟩; clear hK K))
      exact wpUT_done ⟨by rfl, rfl⟩
    intro js
    simp only [UT.dsts, junk, SOp.dst, Option.toList_some, Option.toList_none, List.cons_append, List.nil_append, List.append_nil, cond_true, cond_false]
    repeat ((with_reducible refine wpUT_step (fun K hK => ?_)); go_simp; first | (refine hK _ _ ?_; clear hK K) | (refine ⟨by (intro kk hkk; first | exact hkk.elim | (simp (disch := (simp; omega)) only [hp_drew, hp_drewN, hp_alloc, hp_set]; done) | (simp [hp_drew, hp_drewN, hp_alloc_if, hkk]; done) | fail), hK _ _ ?_⟩; clear hK K))
    refine wpUT_done ?_
    go_wp2
    go_ret
    exact ⟨rfl, (Below.refl _ _).alloc (Nat.le_refl _) _⟩
  have f2 : (kd == 1) = false := by simpa using h1
  by_cases h3 : kd = 3
  · have f3 : (kd == 3) = true := by simpa using h3
    have e1 : RC.counts ⟨cl, kd, key, va, vl, vc, fr, to, co, ga, gl, gc⟩ = (to == -1 || co == 0) := by simp [RC.counts, h3]
    rw [e1]
    clear e1 h1 h2 h3
    go_enter Try.func11, Try.ntmps11
    go_upto_region 6 with fail
    refine wp_region_units (.step 0 (.step 1 (.step 2 (.step 3 (.unit 3 false (.step 4 (.step 5 (.step 6 .done))) 7 6 (.step 8 .done)))))) (by kernel_rfl) (by kernel_rfl) ?_
    simp only [mkUT, dstOf, bare, Oper.slim, List.contains_cons, List.contains_nil, Option.map_none, Option.map_some, List.getElem?_toArray, List.getElem?_cons_zero, List.getElem?_cons_succ, Option.bind_some, beq_self_eq_true, Bool.or_false, Nat.reduceBEq, Nat.reduceAdd, Nat.zero_add, Option.getD_some, Option.isSome_some, Option.isSome_none, Bool.false_and, Bool.true_and, Bool.false_eq_true, if_false, if_true, Option.some_beq_some, Option.some_beq_none, Option.none_beq_some, reduceCtorEq, ite_true, ite_false]
    repeat ((with_reducible refine wpUT_step (fun K hK => ?_)); go_simp; first | (refine hK _ _ ?_; clear hK K) | (refine ⟨by (intro kk hkk; first | exact hkk.elim | (simp (disch := (simp; omega)) only [hp_drew, hp_drewN, hp_alloc, hp_set]; done) | (simp [hp_drew, hp_drewN, hp_alloc_if, hkk]; done) | fail), hK _ _ ?_⟩; clear hK K))
    refine wpUT_unit (x := ?_) (by rfl) ?_ ?_
    rotate_left
    · intro hgd
      repeat ((with_reducible refine wpUT_step (fun K hK => ?_)); go_simp; first | (refine hK _ _ ?_; clear hK K) | (refine ⟨by (intro kk hkk; first | exact hkk.elim | (simp (disch := (simp; omega)) only [hp_drew, hp_drewN, hp_alloc, hp_set]; done) | (simp [hp_drew, hp_drewN, hp_alloc_if, hkk]; done) | fail), hK _ _ ?_⟩; clear hK K))
      exact wpUT_done ⟨by rfl, rfl⟩
    intro js
    simp only [UT.dsts, junk, SOp.dst, Option.toList_some, Option.toList_none, List.cons_append, List.nil_append, List.append_nil, cond_true, cond_false]
    repeat ((with_reducible refine wpUT_step (fun K hK => ?_)); go_simp; first | (refine hK _ _ ?_; clear hK K) | (refine ⟨by (intro kk hkk; first | exact hkk.elim | (simp (disch := (simp; omega)) only [hp_drew, hp_drewN, hp_alloc, hp_set]; done) | (simp [hp_drew, hp_drewN, hp_alloc_if, hkk]; done) | fail), hK _ _ ?_⟩; clear hK K))
    refine wpUT_done ?_
    go_wp2
    go_ret
    exact ⟨rfl, (Below.refl _ _).alloc (Nat.le_refl _) _⟩
  · have f3 : (kd == 3) = false := by simpa using h3
    have e1 : RC.counts ⟨cl, kd, key, va, vl, vc, fr, to, co, ga, gl, gc⟩ = false := by simp [RC.counts, h1, h2, h3]
    rw [e1]
    clear e1 h1 h2 h3
    go_enter Try.func11, Try.ntmps11
    go_wp2
    go_ret
    exact ⟨rfl, (Below.refl _ _).alloc (Nat.le_refl _) _⟩
end Go.Proofs.Ytggecoekoilahaa
