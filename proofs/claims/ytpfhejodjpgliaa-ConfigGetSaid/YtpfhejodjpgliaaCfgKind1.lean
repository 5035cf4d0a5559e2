/-
  The reference's kind: Reed.
-/
import Derived.Test.YtpfhejodjpgliaaCfgRefs4
import Derived.Test.YtpfhejodjpgliaaPut
namespace Go.Proofs.Ytpfhejodjpgliaa
open Go.RowKit
set_option linter.unusedSimpArgs false
set_option linter.unusedVariables false

set_option maxRecDepth 100000 in
set_option maxHeartbeats 4000000 in
theorem kind_reed (n k d r t q : Int) (b : Bool) (w : World) (hn : 1 ≤ n ∧ n ≤ 255) (hk : 0 ≤ k ∧ k ≤ 255) (hd : 0 ≤ d ∧ d ≤ 255) (hr : 0 ≤ r ∧ r ≤ 255) (ht : 0 ≤ t ∧ t ≤ 127) (hb : b = true ↔ (1 ≤ k ∧ k ≤ n ∧ d = 0 ∧ r = 0)) :
    Calls Try.prog 17 #[.agg #[.int .u8 1, .int .i64 n, .int .i64 k, .int .i64 d, .int .i64 r, .int .i64 t, .int .i64 q]] w fun e w' => e = .returned (.tuple #[.agg #[.int .i64 1, .int .i64 k, .int .i64 k, .int .i64 (k + 2 * t), .int .i64 1], .bool b]) ∧ Below w.heap.size w w' := by
  have e1 : IntKind.i64.wrap (2 * t) = 2 * t := IntWalk.i64_in _ (by omega)
  have e2 : IntKind.i64.wrap (k + 2 * t) = k + 2 * t := IntWalk.i64_in _ (by omega)
  by_cases c1 : 1 ≤ k
  case neg =>
    have f1 : decide (1 ≤ k) = false := decide_eq_false c1
    obtain rfl : b = false := by (cases b with | false => rfl | true => exact absurd (hb.1 rfl).1 c1)
    clear hb
    go_enter Try.func17, Try.ntmps17
    go_wp2
    generalize hw0 : ((w.alloc (.cells #[.int .u8 1, .int .i64 n, .int .i64 k, .int .i64 d, .int .i64 r, .int .i64 t, .int .i64 q] 23)).alloc (.cells #[.int .i64 0, .int .i64 0, .int .i64 0, .int .i64 0, .int .i64 0] 31)) = w0
    have hs0 : w0.heap.size = w.heap.size + 2 := by rw [← hw0]; simp
    have hB0 : w0.heap[w.heap.size]? = some (.cells #[.int .u8 1, .int .i64 n, .int .i64 k, .int .i64 d, .int .i64 r, .int .i64 t, .int .i64 q] 23) := by rw [← hw0]; exact (heap_two' w _ _).1
    have hB1 : w0.heap[w.heap.size + 1]? = some (.cells #[.int .i64 0, .int .i64 0, .int .i64 0, .int .i64 0, .int .i64 0] 31) := by rw [← hw0]; exact (heap_two' w _ _).2
    have hb0 : Below w.heap.size w w0 := by rw [← hw0]; exact (((Below.refl _ w).alloc (Nat.le_refl _) _).alloc (by simp) _)
    clear hw0
    have hc1 : w0.cell? ⟨w.heap.size, 1, none⟩ = some (.int .i64 n) := cell_of_row w0 _ 1 _ _ (0, 0) hB0
    have hc2 : w0.cell? ⟨w.heap.size, 2, none⟩ = some (.int .i64 k) := cell_of_row w0 _ 2 _ _ (0, 0) hB0
    have hc3 : w0.cell? ⟨w.heap.size, 3, none⟩ = some (.int .i64 d) := cell_of_row w0 _ 3 _ _ (0, 0) hB0
    have hc4 : w0.cell? ⟨w.heap.size, 4, none⟩ = some (.int .i64 r) := cell_of_row w0 _ 4 _ _ (0, 0) hB0
    have hc5 : w0.cell? ⟨w.heap.size, 5, none⟩ = some (.int .i64 t) := cell_of_row w0 _ 5 _ _ (0, 0) hB0
    obtain ⟨w2, rfl, hz2, hp⟩ := put_of hB1
    have hb2 := hp (fun W => Below w.heap.size w W) hb0
    rw [size_putBlk] at hs0
    clear hp hB1 hb0 hB0
    have hgr := fun (w0 W : World) (p : Addr) (hp : (fun k => k = w.heap.size) p.block) => graft_cell (w0 := w0) (keep := (fun k => k = w.heap.size)) W hp
    refine wp_region_here (fun k => k = w.heap.size) [31] (by kernel_rfl) (by kernel_rfl) ?_
    simp only [slimAll, Oper.slim, List.contains_cons, List.contains_nil, Option.map_none, Option.map_some, List.getElem?_toArray, List.getElem?_cons_zero, List.getElem?_cons_succ, Option.bind_some, beq_self_eq_true, Bool.or_false, Nat.reduceBEq, Nat.reduceAdd, Nat.zero_add]
    repeat ((with_reducible refine wpSlim_step (fun K hK => ?_)); go_simp; first | (refine hK _ _ ?_; clear hK K) | (refine ⟨by (intro kk hkk; simp (disch := (simp [size_putBlk]; omega)) only [hp_drew, hp_drewN, hp_alloc, hp_set, heap_putBlk_ne]), hK _ _ ?_⟩; clear hK K))
    refine wpSlim_nil ?_
    clear hgr
    go_wp2
    refine bodyPost_ret (by simp [results, Try.results17, go_sem, hz2, hs0] <;> rfl) rfl ⟨rfl, by (repeat' (first | (with_reducible exact Below.refl _ _) | (with_reducible assumption) | (with_reducible refine bel_drewN ?_ _) | (with_reducible refine Below.drew ?_) | (with_reducible refine Below.alloc ?_ ?_ _) | (with_reducible refine bel_putBlk ?_ ?_ _) | (with_reducible refine Below.setCell ?_ ?_ _) | omega | (simp [size_putBlk]; done) | (simp [size_putBlk]; omega)))⟩
  have f1 : decide (1 ≤ k) = true := decide_eq_true c1
  by_cases c2 : k ≤ n
  case neg =>
    have f2 : decide (k ≤ n) = false := decide_eq_false c2
    obtain rfl : b = false := by (cases b with | false => rfl | true => exact absurd (hb.1 rfl).2.1 c2)
    clear hb
    go_enter Try.func17, Try.ntmps17
    go_wp2
    generalize hw0 : ((w.alloc (.cells #[.int .u8 1, .int .i64 n, .int .i64 k, .int .i64 d, .int .i64 r, .int .i64 t, .int .i64 q] 23)).alloc (.cells #[.int .i64 0, .int .i64 0, .int .i64 0, .int .i64 0, .int .i64 0] 31)) = w0
    have hs0 : w0.heap.size = w.heap.size + 2 := by rw [← hw0]; simp
    have hB0 : w0.heap[w.heap.size]? = some (.cells #[.int .u8 1, .int .i64 n, .int .i64 k, .int .i64 d, .int .i64 r, .int .i64 t, .int .i64 q] 23) := by rw [← hw0]; exact (heap_two' w _ _).1
    have hB1 : w0.heap[w.heap.size + 1]? = some (.cells #[.int .i64 0, .int .i64 0, .int .i64 0, .int .i64 0, .int .i64 0] 31) := by rw [← hw0]; exact (heap_two' w _ _).2
    have hb0 : Below w.heap.size w w0 := by rw [← hw0]; exact (((Below.refl _ w).alloc (Nat.le_refl _) _).alloc (by simp) _)
    clear hw0
    have hc1 : w0.cell? ⟨w.heap.size, 1, none⟩ = some (.int .i64 n) := cell_of_row w0 _ 1 _ _ (0, 0) hB0
    have hc2 : w0.cell? ⟨w.heap.size, 2, none⟩ = some (.int .i64 k) := cell_of_row w0 _ 2 _ _ (0, 0) hB0
    have hc3 : w0.cell? ⟨w.heap.size, 3, none⟩ = some (.int .i64 d) := cell_of_row w0 _ 3 _ _ (0, 0) hB0
    have hc4 : w0.cell? ⟨w.heap.size, 4, none⟩ = some (.int .i64 r) := cell_of_row w0 _ 4 _ _ (0, 0) hB0
    have hc5 : w0.cell? ⟨w.heap.size, 5, none⟩ = some (.int .i64 t) := cell_of_row w0 _ 5 _ _ (0, 0) hB0
    obtain ⟨w2, rfl, hz2, hp⟩ := put_of hB1
    have hb2 := hp (fun W => Below w.heap.size w W) hb0
    rw [size_putBlk] at hs0
    clear hp hB1 hb0 hB0
    have hgr := fun (w0 W : World) (p : Addr) (hp : (fun k => k = w.heap.size) p.block) => graft_cell (w0 := w0) (keep := (fun k => k = w.heap.size)) W hp
    refine wp_region_here (fun k => k = w.heap.size) [31] (by kernel_rfl) (by kernel_rfl) ?_
    simp only [slimAll, Oper.slim, List.contains_cons, List.contains_nil, Option.map_none, Option.map_some, List.getElem?_toArray, List.getElem?_cons_zero, List.getElem?_cons_succ, Option.bind_some, beq_self_eq_true, Bool.or_false, Nat.reduceBEq, Nat.reduceAdd, Nat.zero_add]
    repeat ((with_reducible refine wpSlim_step (fun K hK => ?_)); go_simp; first | (refine hK _ _ ?_; clear hK K) | (refine ⟨by (intro kk hkk; simp (disch := (simp [size_putBlk]; omega)) only [hp_drew, hp_drewN, hp_alloc, hp_set, heap_putBlk_ne]), hK _ _ ?_⟩; clear hK K))
    refine wpSlim_nil ?_
    clear hgr
    go_wp2
    refine bodyPost_ret (by simp [results, Try.results17, go_sem, hz2, hs0] <;> rfl) rfl ⟨rfl, by (repeat' (first | (with_reducible exact Below.refl _ _) | (with_reducible assumption) | (with_reducible refine bel_drewN ?_ _) | (with_reducible refine Below.drew ?_) | (with_reducible refine Below.alloc ?_ ?_ _) | (with_reducible refine bel_putBlk ?_ ?_ _) | (with_reducible refine Below.setCell ?_ ?_ _) | omega | (simp [size_putBlk]; done) | (simp [size_putBlk]; omega)))⟩
  have f2 : decide (k ≤ n) = true := decide_eq_true c2
  by_cases c3 : d = 0
  case neg =>
    have f3 : (d == 0) = false := by simpa using c3
    obtain rfl : b = false := by (cases b with | false => rfl | true => exact absurd (hb.1 rfl).2.2.1 c3)
    clear hb
    go_enter Try.func17, Try.ntmps17
    go_wp2
    generalize hw0 : ((w.alloc (.cells #[.int .u8 1, .int .i64 n, .int .i64 k, .int .i64 d, .int .i64 r, .int .i64 t, .int .i64 q] 23)).alloc (.cells #[.int .i64 0, .int .i64 0, .int .i64 0, .int .i64 0, .int .i64 0] 31)) = w0
    have hs0 : w0.heap.size = w.heap.size + 2 := by rw [← hw0]; simp
    have hB0 : w0.heap[w.heap.size]? = some (.cells #[.int .u8 1, .int .i64 n, .int .i64 k, .int .i64 d, .int .i64 r, .int .i64 t, .int .i64 q] 23) := by rw [← hw0]; exact (heap_two' w _ _).1
    have hB1 : w0.heap[w.heap.size + 1]? = some (.cells #[.int .i64 0, .int .i64 0, .int .i64 0, .int .i64 0, .int .i64 0] 31) := by rw [← hw0]; exact (heap_two' w _ _).2
    have hb0 : Below w.heap.size w w0 := by rw [← hw0]; exact (((Below.refl _ w).alloc (Nat.le_refl _) _).alloc (by simp) _)
    clear hw0
    have hc1 : w0.cell? ⟨w.heap.size, 1, none⟩ = some (.int .i64 n) := cell_of_row w0 _ 1 _ _ (0, 0) hB0
    have hc2 : w0.cell? ⟨w.heap.size, 2, none⟩ = some (.int .i64 k) := cell_of_row w0 _ 2 _ _ (0, 0) hB0
    have hc3 : w0.cell? ⟨w.heap.size, 3, none⟩ = some (.int .i64 d) := cell_of_row w0 _ 3 _ _ (0, 0) hB0
    have hc4 : w0.cell? ⟨w.heap.size, 4, none⟩ = some (.int .i64 r) := cell_of_row w0 _ 4 _ _ (0, 0) hB0
    have hc5 : w0.cell? ⟨w.heap.size, 5, none⟩ = some (.int .i64 t) := cell_of_row w0 _ 5 _ _ (0, 0) hB0
    obtain ⟨w2, rfl, hz2, hp⟩ := put_of hB1
    have hb2 := hp (fun W => Below w.heap.size w W) hb0
    rw [size_putBlk] at hs0
    clear hp hB1 hb0 hB0
    have hgr := fun (w0 W : World) (p : Addr) (hp : (fun k => k = w.heap.size) p.block) => graft_cell (w0 := w0) (keep := (fun k => k = w.heap.size)) W hp
    refine wp_region_here (fun k => k = w.heap.size) [31] (by kernel_rfl) (by kernel_rfl) ?_
    simp only [slimAll, Oper.slim, List.contains_cons, List.contains_nil, Option.map_none, Option.map_some, List.getElem?_toArray, List.getElem?_cons_zero, List.getElem?_cons_succ, Option.bind_some, beq_self_eq_true, Bool.or_false, Nat.reduceBEq, Nat.reduceAdd, Nat.zero_add]
    repeat ((with_reducible refine wpSlim_step (fun K hK => ?_)); go_simp; first | (refine hK _ _ ?_; clear hK K) | (refine ⟨by (intro kk hkk; simp (disch := (simp [size_putBlk]; omega)) only [hp_drew, hp_drewN, hp_alloc, hp_set, heap_putBlk_ne]), hK _ _ ?_⟩; clear hK K))
    refine wpSlim_nil ?_
    clear hgr
    go_wp2
    refine bodyPost_ret (by simp [results, Try.results17, go_sem, hz2, hs0] <;> rfl) rfl ⟨rfl, by (repeat' (first | (with_reducible exact Below.refl _ _) | (with_reducible assumption) | (with_reducible refine bel_drewN ?_ _) | (with_reducible refine Below.drew ?_) | (with_reducible refine Below.alloc ?_ ?_ _) | (with_reducible refine bel_putBlk ?_ ?_ _) | (with_reducible refine Below.setCell ?_ ?_ _) | omega | (simp [size_putBlk]; done) | (simp [size_putBlk]; omega)))⟩
  by_cases c4 : r = 0
  case neg =>
    have f4 : (r == 0) = false := by simpa using c4
    obtain rfl : b = false := by (cases b with | false => rfl | true => exact absurd (hb.1 rfl).2.2.2 c4)
    clear hb
    go_enter Try.func17, Try.ntmps17
    go_wp2
    generalize hw0 : ((w.alloc (.cells #[.int .u8 1, .int .i64 n, .int .i64 k, .int .i64 d, .int .i64 r, .int .i64 t, .int .i64 q] 23)).alloc (.cells #[.int .i64 0, .int .i64 0, .int .i64 0, .int .i64 0, .int .i64 0] 31)) = w0
    have hs0 : w0.heap.size = w.heap.size + 2 := by rw [← hw0]; simp
    have hB0 : w0.heap[w.heap.size]? = some (.cells #[.int .u8 1, .int .i64 n, .int .i64 k, .int .i64 d, .int .i64 r, .int .i64 t, .int .i64 q] 23) := by rw [← hw0]; exact (heap_two' w _ _).1
    have hB1 : w0.heap[w.heap.size + 1]? = some (.cells #[.int .i64 0, .int .i64 0, .int .i64 0, .int .i64 0, .int .i64 0] 31) := by rw [← hw0]; exact (heap_two' w _ _).2
    have hb0 : Below w.heap.size w w0 := by rw [← hw0]; exact (((Below.refl _ w).alloc (Nat.le_refl _) _).alloc (by simp) _)
    clear hw0
    have hc1 : w0.cell? ⟨w.heap.size, 1, none⟩ = some (.int .i64 n) := cell_of_row w0 _ 1 _ _ (0, 0) hB0
    have hc2 : w0.cell? ⟨w.heap.size, 2, none⟩ = some (.int .i64 k) := cell_of_row w0 _ 2 _ _ (0, 0) hB0
    have hc3 : w0.cell? ⟨w.heap.size, 3, none⟩ = some (.int .i64 d) := cell_of_row w0 _ 3 _ _ (0, 0) hB0
    have hc4 : w0.cell? ⟨w.heap.size, 4, none⟩ = some (.int .i64 r) := cell_of_row w0 _ 4 _ _ (0, 0) hB0
    have hc5 : w0.cell? ⟨w.heap.size, 5, none⟩ = some (.int .i64 t) := cell_of_row w0 _ 5 _ _ (0, 0) hB0
    obtain ⟨w2, rfl, hz2, hp⟩ := put_of hB1
    have hb2 := hp (fun W => Below w.heap.size w W) hb0
    rw [size_putBlk] at hs0
    clear hp hB1 hb0 hB0
    have hgr := fun (w0 W : World) (p : Addr) (hp : (fun k => k = w.heap.size) p.block) => graft_cell (w0 := w0) (keep := (fun k => k = w.heap.size)) W hp
    refine wp_region_here (fun k => k = w.heap.size) [31] (by kernel_rfl) (by kernel_rfl) ?_
    simp only [slimAll, Oper.slim, List.contains_cons, List.contains_nil, Option.map_none, Option.map_some, List.getElem?_toArray, List.getElem?_cons_zero, List.getElem?_cons_succ, Option.bind_some, beq_self_eq_true, Bool.or_false, Nat.reduceBEq, Nat.reduceAdd, Nat.zero_add]
    repeat ((with_reducible refine wpSlim_step (fun K hK => ?_)); go_simp; first | (refine hK _ _ ?_; clear hK K) | (refine ⟨by (intro kk hkk; simp (disch := (simp [size_putBlk]; omega)) only [hp_drew, hp_drewN, hp_alloc, hp_set, heap_putBlk_ne]), hK _ _ ?_⟩; clear hK K))
    refine wpSlim_nil ?_
    clear hgr
    go_wp2
    refine bodyPost_ret (by simp [results, Try.results17, go_sem, hz2, hs0] <;> rfl) rfl ⟨rfl, by (repeat' (first | (with_reducible exact Below.refl _ _) | (with_reducible assumption) | (with_reducible refine bel_drewN ?_ _) | (with_reducible refine Below.drew ?_) | (with_reducible refine Below.alloc ?_ ?_ _) | (with_reducible refine bel_putBlk ?_ ?_ _) | (with_reducible refine Below.setCell ?_ ?_ _) | omega | (simp [size_putBlk]; done) | (simp [size_putBlk]; omega)))⟩
  obtain rfl : b = true := hb.2 ⟨c1, c2, c3, c4⟩
  clear hb
  go_enter Try.func17, Try.ntmps17
  go_wp2
  generalize hw0 : ((w.alloc (.cells #[.int .u8 1, .int .i64 n, .int .i64 k, .int .i64 d, .int .i64 r, .int .i64 t, .int .i64 q] 23)).alloc (.cells #[.int .i64 0, .int .i64 0, .int .i64 0, .int .i64 0, .int .i64 0] 31)) = w0
  have hs0 : w0.heap.size = w.heap.size + 2 := by rw [← hw0]; simp
  have hB0 : w0.heap[w.heap.size]? = some (.cells #[.int .u8 1, .int .i64 n, .int .i64 k, .int .i64 d, .int .i64 r, .int .i64 t, .int .i64 q] 23) := by rw [← hw0]; exact (heap_two' w _ _).1
  have hB1 : w0.heap[w.heap.size + 1]? = some (.cells #[.int .i64 0, .int .i64 0, .int .i64 0, .int .i64 0, .int .i64 0] 31) := by rw [← hw0]; exact (heap_two' w _ _).2
  have hb0 : Below w.heap.size w w0 := by rw [← hw0]; exact (((Below.refl _ w).alloc (Nat.le_refl _) _).alloc (by simp) _)
  clear hw0
  have hc1 : w0.cell? ⟨w.heap.size, 1, none⟩ = some (.int .i64 n) := cell_of_row w0 _ 1 _ _ (0, 0) hB0
  have hc2 : w0.cell? ⟨w.heap.size, 2, none⟩ = some (.int .i64 k) := cell_of_row w0 _ 2 _ _ (0, 0) hB0
  have hc3 : w0.cell? ⟨w.heap.size, 3, none⟩ = some (.int .i64 d) := cell_of_row w0 _ 3 _ _ (0, 0) hB0
  have hc4 : w0.cell? ⟨w.heap.size, 4, none⟩ = some (.int .i64 r) := cell_of_row w0 _ 4 _ _ (0, 0) hB0
  have hc5 : w0.cell? ⟨w.heap.size, 5, none⟩ = some (.int .i64 t) := cell_of_row w0 _ 5 _ _ (0, 0) hB0
  obtain ⟨w2, rfl, hz2, hp⟩ := put_of hB1
  have hb2 := hp (fun W => Below w.heap.size w W) hb0
  rw [size_putBlk] at hs0
  clear hp hB1 hb0 hB0
  have hgr := fun (w0 W : World) (p : Addr) (hp : (fun k => k = w.heap.size) p.block) => graft_cell (w0 := w0) (keep := (fun k => k = w.heap.size)) W hp
  refine wp_region_here (fun k => k = w.heap.size) [31] (by kernel_rfl) (by kernel_rfl) ?_
  simp only [slimAll, Oper.slim, List.contains_cons, List.contains_nil, Option.map_none, Option.map_some, List.getElem?_toArray, List.getElem?_cons_zero, List.getElem?_cons_succ, Option.bind_some, beq_self_eq_true, Bool.or_false, Nat.reduceBEq, Nat.reduceAdd, Nat.zero_add]
  repeat ((with_reducible refine wpSlim_step (fun K hK => ?_)); go_simp; first | (refine hK _ _ ?_; clear hK K) | (refine ⟨by (intro kk hkk; simp (disch := (simp [size_putBlk]; omega)) only [hp_drew, hp_drewN, hp_alloc, hp_set, heap_putBlk_ne]), hK _ _ ?_⟩; clear hK K))
  refine wpSlim_nil ?_
  clear hgr
  go_wp2
  refine bodyPost_ret (by simp [results, Try.results17, go_sem, hz2, hs0] <;> rfl) rfl ⟨rfl, by (repeat' (first | (with_reducible exact Below.refl _ _) | (with_reducible assumption) | (with_reducible refine bel_drewN ?_ _) | (with_reducible refine Below.drew ?_) | (with_reducible refine Below.alloc ?_ ?_ _) | (with_reducible refine bel_putBlk ?_ ?_ _) | (with_reducible refine Below.setCell ?_ ?_ _) | omega | (simp [size_putBlk]; done) | (simp [size_putBlk]; omega)))⟩
end Go.Proofs.Ytpfhejodjpgliaa
