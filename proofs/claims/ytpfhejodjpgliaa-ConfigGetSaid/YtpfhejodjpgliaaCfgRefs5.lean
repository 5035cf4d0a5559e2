/-
  The reference's local codes.
-/
import Derived.Test.YtpfhejodjpgliaaCfgRefs4
namespace Go.Proofs.Ytpfhejodjpgliaa
open Go.RowKit
set_option linter.unusedSimpArgs false
set_option linter.unusedVariables false

def okN12 (n k r : Int) : Prop := r ≤ 254 ∧ 255 % (r + 1) = 0 ∧ n % (r + 1) = 0 ∧ 1 ≤ k ∧ k % r = 0 ∧ k + k / r - 1 ≤ n

theorem heap_new9 (w : World) (o : Obj) : (w.alloc o).heap[w.heap.size]? = some o := by
  show (w.heap.push o)[w.heap.size]? = _
  rw [Array.getElem?_push, if_pos rfl]

set_option maxHeartbeats 4000000 in
theorem r12New_ok (n k r : Int) (w : World) (hn : 1 ≤ n ∧ n ≤ 255) (hk : 0 ≤ k ∧ k ≤ 255) (hr : 1 ≤ r ∧ r ≤ 255) (h : okN12 n k r) :
    Calls Try.prog 32 #[.agg #[.int .i64 n, .int .i64 k, .int .i64 r]] w fun e w' => e = .returned (.int .i64 0) ∧ Below w.heap.size w w' := by
  have g1 : decide (n < 1) = false := decide_eq_false (by omega)
  have g2 : decide (255 < n) = false := decide_eq_false (by omega)
  have g3 : decide (r < 1) = false := decide_eq_false (by omega)
  have g4 : decide (255 < k) = false := decide_eq_false (by omega)
  have ew : IntKind.i64.wrap (r + 1) = r + 1 := IntWalk.i64_in _ (by omega)
  have z1 : ¬ (r + 1 = 0) := by omega
  have z2 : ¬ (r = 0) := by omega
  have q1 : (255 : Int).tmod (r + 1) = 255 % (r + 1) := Int.tmod_eq_emod_of_nonneg (by omega)
  have q2 : n.tmod (r + 1) = n % (r + 1) := Int.tmod_eq_emod_of_nonneg (by omega)
  have q3 : k.tmod r = k % r := Int.tmod_eq_emod_of_nonneg (by omega)
  have e1 : IntKind.i64.wrap (255 % (r + 1)) = 255 % (r + 1) := IntWalk.i64_in _ (by have := Int.emod_nonneg 255 z1; have := Int.emod_lt_of_pos 255 (show 0 < r + 1 by omega); omega)
  have e2 : IntKind.i64.wrap (n % (r + 1)) = n % (r + 1) := IntWalk.i64_in _ (by have := Int.emod_nonneg n z1; have := Int.emod_lt_of_pos n (show 0 < r + 1 by omega); omega)
  have e3 : IntKind.i64.wrap (k % r) = k % r := IntWalk.i64_in _ (by have := Int.emod_nonneg k z2; have := Int.emod_lt_of_pos k (show 0 < r by omega); omega)
  obtain ⟨h1, h2, h3, h4, h5, h6⟩ := h
  have f1 : decide (254 < r) = false := decide_eq_false (by omega)
  have f4 : decide (k < 1) = false := decide_eq_false (by omega)
  have f6 : decide (n < k + k / r - 1) = false := decide_eq_false (by omega)
  go_enter Try.func32, Try.ntmps32
  go_wp2
  generalize hw0 : (w.alloc (.cells #[.int .i64 n, .int .i64 k, .int .i64 r] 63)) = w0
  have hs0 : w0.heap.size = w.heap.size + 1 := by rw [← hw0]; simp
  have hB0 : w0.heap[w.heap.size]? = some (.cells #[.int .i64 n, .int .i64 k, .int .i64 r] 63) := by rw [← hw0]; exact heap_new9 w _
  have hb0 : Below w.heap.size w w0 := by rw [← hw0]; exact ((Below.refl _ w).alloc (Nat.le_refl _) _)
  have hc0 : w0.cell? ⟨w.heap.size, 0, none⟩ = some (.int .i64 n) := cell_of_row w0 _ 0 _ _ (0, 0) hB0
  have hc1 : w0.cell? ⟨w.heap.size, 1, none⟩ = some (.int .i64 k) := cell_of_row w0 _ 1 _ _ (0, 0) hB0
  have hc2 : w0.cell? ⟨w.heap.size, 2, none⟩ = some (.int .i64 r) := cell_of_row w0 _ 2 _ _ (0, 0) hB0
  clear hw0
  have hgr := fun (w0 W : World) (p : Addr) (hp : (fun k => k < w.heap.size + 1) p.block) => graft_cell (w0 := w0) (keep := (fun k => k < w.heap.size + 1)) W hp
  refine wp_region_here (fun k => k < w.heap.size + 1) [54] (by kernel_rfl) (by kernel_rfl) ?_
  simp only [slimAll, Oper.slim, List.contains_cons, List.contains_nil, Option.map_none, Option.map_some, List.getElem?_toArray, List.getElem?_cons_zero, List.getElem?_cons_succ, Option.bind_some, beq_self_eq_true, Bool.or_false, Nat.reduceBEq, Nat.reduceAdd, Nat.zero_add]
  repeat ((with_reducible refine wpSlim_step (fun K hK => ?_)); go_simp; first | (refine hK _ _ ?_; clear hK K) | (refine ⟨by (intro kk hkk; first | (simp (disch := (simp; omega)) only [hp_drew, hp_drewN, hp_alloc, hp_set]; done) | (simp [hp_drew, hp_drewN, hp_alloc_if, hkk]; done)), hK _ _ ?_⟩; clear hK K)| (go_at_call 33; refine (r12Tells n k r _ (by omega) (by omega)).mono ?_; rintro e w' ⟨rfl, nn, rfl⟩; refine ⟨_, rfl, (by intro kk hkk; simp (disch := (simp; omega)) only [hp_drew, hp_drewN, hp_alloc, hp_set]; done), hK _ _ ?_⟩; clear hK K))
  refine wpSlim_nil ?_
  clear hgr
  go_wp2
  go_ret
  exact ⟨rfl, by (repeat' (first | (with_reducible exact Below.refl _ _) | (with_reducible assumption) | (with_reducible refine bel_drewN ?_ _) | (with_reducible refine Below.drew ?_) | (with_reducible refine Below.alloc ?_ ?_ _) | (with_reducible refine Below.setCell ?_ ?_ _) | omega | (simp; done) | (simp; omega)))⟩
set_option maxHeartbeats 4000000 in
theorem r12New_bad (n k r : Int) (w : World) (hn : 1 ≤ n ∧ n ≤ 255) (hk : 0 ≤ k ∧ k ≤ 255) (hr : 1 ≤ r ∧ r ≤ 255) (h : ¬ okN12 n k r) :
    Calls Try.prog 32 #[.agg #[.int .i64 n, .int .i64 k, .int .i64 r]] w fun e w' => e = .returned (.int .i64 2) ∧ Below w.heap.size w w' := by
  have g1 : decide (n < 1) = false := decide_eq_false (by omega)
  have g2 : decide (255 < n) = false := decide_eq_false (by omega)
  have g3 : decide (r < 1) = false := decide_eq_false (by omega)
  have g4 : decide (255 < k) = false := decide_eq_false (by omega)
  have ew : IntKind.i64.wrap (r + 1) = r + 1 := IntWalk.i64_in _ (by omega)
  have z1 : ¬ (r + 1 = 0) := by omega
  have z2 : ¬ (r = 0) := by omega
  have q1 : (255 : Int).tmod (r + 1) = 255 % (r + 1) := Int.tmod_eq_emod_of_nonneg (by omega)
  have q2 : n.tmod (r + 1) = n % (r + 1) := Int.tmod_eq_emod_of_nonneg (by omega)
  have q3 : k.tmod r = k % r := Int.tmod_eq_emod_of_nonneg (by omega)
  have e1 : IntKind.i64.wrap (255 % (r + 1)) = 255 % (r + 1) := IntWalk.i64_in _ (by have := Int.emod_nonneg 255 z1; have := Int.emod_lt_of_pos 255 (show 0 < r + 1 by omega); omega)
  have e2 : IntKind.i64.wrap (n % (r + 1)) = n % (r + 1) := IntWalk.i64_in _ (by have := Int.emod_nonneg n z1; have := Int.emod_lt_of_pos n (show 0 < r + 1 by omega); omega)
  have e3 : IntKind.i64.wrap (k % r) = k % r := IntWalk.i64_in _ (by have := Int.emod_nonneg k z2; have := Int.emod_lt_of_pos k (show 0 < r by omega); omega)
  by_cases c1 : 254 < r
  · have f1 : decide (254 < r) = true := decide_eq_true c1
    clear h
    go_enter Try.func32, Try.ntmps32
    go_wp2
    generalize hw0 : (w.alloc (.cells #[.int .i64 n, .int .i64 k, .int .i64 r] 63)) = w0
    have hs0 : w0.heap.size = w.heap.size + 1 := by rw [← hw0]; simp
    have hB0 : w0.heap[w.heap.size]? = some (.cells #[.int .i64 n, .int .i64 k, .int .i64 r] 63) := by rw [← hw0]; exact heap_new9 w _
    have hb0 : Below w.heap.size w w0 := by rw [← hw0]; exact ((Below.refl _ w).alloc (Nat.le_refl _) _)
    have hc0 : w0.cell? ⟨w.heap.size, 0, none⟩ = some (.int .i64 n) := cell_of_row w0 _ 0 _ _ (0, 0) hB0
    have hc1 : w0.cell? ⟨w.heap.size, 1, none⟩ = some (.int .i64 k) := cell_of_row w0 _ 1 _ _ (0, 0) hB0
    have hc2 : w0.cell? ⟨w.heap.size, 2, none⟩ = some (.int .i64 r) := cell_of_row w0 _ 2 _ _ (0, 0) hB0
    clear hw0
    have hgr := fun (w0 W : World) (p : Addr) (hp : (fun k => k < w.heap.size + 1) p.block) => graft_cell (w0 := w0) (keep := (fun k => k < w.heap.size + 1)) W hp
    refine wp_region_here (fun k => k < w.heap.size + 1) [54] (by kernel_rfl) (by kernel_rfl) ?_
    simp only [slimAll, Oper.slim, List.contains_cons, List.contains_nil, Option.map_none, Option.map_some, List.getElem?_toArray, List.getElem?_cons_zero, List.getElem?_cons_succ, Option.bind_some, beq_self_eq_true, Bool.or_false, Nat.reduceBEq, Nat.reduceAdd, Nat.zero_add]
    repeat ((with_reducible refine wpSlim_step (fun K hK => ?_)); go_simp; first | (refine hK _ _ ?_; clear hK K) | (refine ⟨by (intro kk hkk; first | (simp (disch := (simp; omega)) only [hp_drew, hp_drewN, hp_alloc, hp_set]; done) | (simp [hp_drew, hp_drewN, hp_alloc_if, hkk]; done)), hK _ _ ?_⟩; clear hK K)| (go_at_call 33; refine (r12Tells n k r _ (by omega) (by omega)).mono ?_; rintro e w' ⟨rfl, nn, rfl⟩; refine ⟨_, rfl, (by intro kk hkk; simp (disch := (simp; omega)) only [hp_drew, hp_drewN, hp_alloc, hp_set]; done), hK _ _ ?_⟩; clear hK K))
    refine wpSlim_nil ?_
    clear hgr
    go_wp2
    go_ret
    exact ⟨rfl, by (repeat' (first | (with_reducible exact Below.refl _ _) | (with_reducible assumption) | (with_reducible refine bel_drewN ?_ _) | (with_reducible refine Below.drew ?_) | (with_reducible refine Below.alloc ?_ ?_ _) | (with_reducible refine Below.setCell ?_ ?_ _) | omega | (simp; done) | (simp; omega)))⟩
  have f1 : decide (254 < r) = false := decide_eq_false c1
  by_cases c2 : 255 % (r + 1) = 0
  case neg =>
    have c2b : ((255 : Int) % (r + 1) == 0) = false := by simpa using c2
    clear h
    go_enter Try.func32, Try.ntmps32
    go_wp2
    generalize hw0 : (w.alloc (.cells #[.int .i64 n, .int .i64 k, .int .i64 r] 63)) = w0
    have hs0 : w0.heap.size = w.heap.size + 1 := by rw [← hw0]; simp
    have hB0 : w0.heap[w.heap.size]? = some (.cells #[.int .i64 n, .int .i64 k, .int .i64 r] 63) := by rw [← hw0]; exact heap_new9 w _
    have hb0 : Below w.heap.size w w0 := by rw [← hw0]; exact ((Below.refl _ w).alloc (Nat.le_refl _) _)
    have hc0 : w0.cell? ⟨w.heap.size, 0, none⟩ = some (.int .i64 n) := cell_of_row w0 _ 0 _ _ (0, 0) hB0
    have hc1 : w0.cell? ⟨w.heap.size, 1, none⟩ = some (.int .i64 k) := cell_of_row w0 _ 1 _ _ (0, 0) hB0
    have hc2 : w0.cell? ⟨w.heap.size, 2, none⟩ = some (.int .i64 r) := cell_of_row w0 _ 2 _ _ (0, 0) hB0
    clear hw0
    have hgr := fun (w0 W : World) (p : Addr) (hp : (fun k => k < w.heap.size + 1) p.block) => graft_cell (w0 := w0) (keep := (fun k => k < w.heap.size + 1)) W hp
    refine wp_region_here (fun k => k < w.heap.size + 1) [54] (by kernel_rfl) (by kernel_rfl) ?_
    simp only [slimAll, Oper.slim, List.contains_cons, List.contains_nil, Option.map_none, Option.map_some, List.getElem?_toArray, List.getElem?_cons_zero, List.getElem?_cons_succ, Option.bind_some, beq_self_eq_true, Bool.or_false, Nat.reduceBEq, Nat.reduceAdd, Nat.zero_add]
    repeat ((with_reducible refine wpSlim_step (fun K hK => ?_)); go_simp; first | (refine hK _ _ ?_; clear hK K) | (refine ⟨by (intro kk hkk; first | (simp (disch := (simp; omega)) only [hp_drew, hp_drewN, hp_alloc, hp_set]; done) | (simp [hp_drew, hp_drewN, hp_alloc_if, hkk]; done)), hK _ _ ?_⟩; clear hK K)| (go_at_call 33; refine (r12Tells n k r _ (by omega) (by omega)).mono ?_; rintro e w' ⟨rfl, nn, rfl⟩; refine ⟨_, rfl, (by intro kk hkk; simp (disch := (simp; omega)) only [hp_drew, hp_drewN, hp_alloc, hp_set]; done), hK _ _ ?_⟩; clear hK K))
    refine wpSlim_nil ?_
    clear hgr
    go_wp2
    go_ret
    exact ⟨rfl, by (repeat' (first | (with_reducible exact Below.refl _ _) | (with_reducible assumption) | (with_reducible refine bel_drewN ?_ _) | (with_reducible refine Below.drew ?_) | (with_reducible refine Below.alloc ?_ ?_ _) | (with_reducible refine Below.setCell ?_ ?_ _) | omega | (simp; done) | (simp; omega)))⟩
  by_cases c3 : n % (r + 1) = 0
  case neg =>
    have c3b : (n % (r + 1) == 0) = false := by simpa using c3
    clear h
    go_enter Try.func32, Try.ntmps32
    go_wp2
    generalize hw0 : (w.alloc (.cells #[.int .i64 n, .int .i64 k, .int .i64 r] 63)) = w0
    have hs0 : w0.heap.size = w.heap.size + 1 := by rw [← hw0]; simp
    have hB0 : w0.heap[w.heap.size]? = some (.cells #[.int .i64 n, .int .i64 k, .int .i64 r] 63) := by rw [← hw0]; exact heap_new9 w _
    have hb0 : Below w.heap.size w w0 := by rw [← hw0]; exact ((Below.refl _ w).alloc (Nat.le_refl _) _)
    have hc0 : w0.cell? ⟨w.heap.size, 0, none⟩ = some (.int .i64 n) := cell_of_row w0 _ 0 _ _ (0, 0) hB0
    have hc1 : w0.cell? ⟨w.heap.size, 1, none⟩ = some (.int .i64 k) := cell_of_row w0 _ 1 _ _ (0, 0) hB0
    have hc2 : w0.cell? ⟨w.heap.size, 2, none⟩ = some (.int .i64 r) := cell_of_row w0 _ 2 _ _ (0, 0) hB0
    clear hw0
    have hgr := fun (w0 W : World) (p : Addr) (hp : (fun k => k < w.heap.size + 1) p.block) => graft_cell (w0 := w0) (keep := (fun k => k < w.heap.size + 1)) W hp
    refine wp_region_here (fun k => k < w.heap.size + 1) [54] (by kernel_rfl) (by kernel_rfl) ?_
    simp only [slimAll, Oper.slim, List.contains_cons, List.contains_nil, Option.map_none, Option.map_some, List.getElem?_toArray, List.getElem?_cons_zero, List.getElem?_cons_succ, Option.bind_some, beq_self_eq_true, Bool.or_false, Nat.reduceBEq, Nat.reduceAdd, Nat.zero_add]
    repeat ((with_reducible refine wpSlim_step (fun K hK => ?_)); go_simp; first | (refine hK _ _ ?_; clear hK K) | (refine ⟨by (intro kk hkk; first | (simp (disch := (simp; omega)) only [hp_drew, hp_drewN, hp_alloc, hp_set]; done) | (simp [hp_drew, hp_drewN, hp_alloc_if, hkk]; done)), hK _ _ ?_⟩; clear hK K)| (go_at_call 33; refine (r12Tells n k r _ (by omega) (by omega)).mono ?_; rintro e w' ⟨rfl, nn, rfl⟩; refine ⟨_, rfl, (by intro kk hkk; simp (disch := (simp; omega)) only [hp_drew, hp_drewN, hp_alloc, hp_set]; done), hK _ _ ?_⟩; clear hK K))
    refine wpSlim_nil ?_
    clear hgr
    go_wp2
    go_ret
    exact ⟨rfl, by (repeat' (first | (with_reducible exact Below.refl _ _) | (with_reducible assumption) | (with_reducible refine bel_drewN ?_ _) | (with_reducible refine Below.drew ?_) | (with_reducible refine Below.alloc ?_ ?_ _) | (with_reducible refine Below.setCell ?_ ?_ _) | omega | (simp; done) | (simp; omega)))⟩
  by_cases c4 : k < 1
  · have f4 : decide (k < 1) = true := decide_eq_true c4
    clear h
    go_enter Try.func32, Try.ntmps32
    go_wp2
    generalize hw0 : (w.alloc (.cells #[.int .i64 n, .int .i64 k, .int .i64 r] 63)) = w0
    have hs0 : w0.heap.size = w.heap.size + 1 := by rw [← hw0]; simp
    have hB0 : w0.heap[w.heap.size]? = some (.cells #[.int .i64 n, .int .i64 k, .int .i64 r] 63) := by rw [← hw0]; exact heap_new9 w _
    have hb0 : Below w.heap.size w w0 := by rw [← hw0]; exact ((Below.refl _ w).alloc (Nat.le_refl _) _)
    have hc0 : w0.cell? ⟨w.heap.size, 0, none⟩ = some (.int .i64 n) := cell_of_row w0 _ 0 _ _ (0, 0) hB0
    have hc1 : w0.cell? ⟨w.heap.size, 1, none⟩ = some (.int .i64 k) := cell_of_row w0 _ 1 _ _ (0, 0) hB0
    have hc2 : w0.cell? ⟨w.heap.size, 2, none⟩ = some (.int .i64 r) := cell_of_row w0 _ 2 _ _ (0, 0) hB0
    clear hw0
    have hgr := fun (w0 W : World) (p : Addr) (hp : (fun k => k < w.heap.size + 1) p.block) => graft_cell (w0 := w0) (keep := (fun k => k < w.heap.size + 1)) W hp
    refine wp_region_here (fun k => k < w.heap.size + 1) [54] (by kernel_rfl) (by kernel_rfl) ?_
    simp only [slimAll, Oper.slim, List.contains_cons, List.contains_nil, Option.map_none, Option.map_some, List.getElem?_toArray, List.getElem?_cons_zero, List.getElem?_cons_succ, Option.bind_some, beq_self_eq_true, Bool.or_false, Nat.reduceBEq, Nat.reduceAdd, Nat.zero_add]
    repeat ((with_reducible refine wpSlim_step (fun K hK => ?_)); go_simp; first | (refine hK _ _ ?_; clear hK K) | (refine ⟨by (intro kk hkk; first | (simp (disch := (simp; omega)) only [hp_drew, hp_drewN, hp_alloc, hp_set]; done) | (simp [hp_drew, hp_drewN, hp_alloc_if, hkk]; done)), hK _ _ ?_⟩; clear hK K)| (go_at_call 33; refine (r12Tells n k r _ (by omega) (by omega)).mono ?_; rintro e w' ⟨rfl, nn, rfl⟩; refine ⟨_, rfl, (by intro kk hkk; simp (disch := (simp; omega)) only [hp_drew, hp_drewN, hp_alloc, hp_set]; done), hK _ _ ?_⟩; clear hK K))
    refine wpSlim_nil ?_
    clear hgr
    go_wp2
    go_ret
    exact ⟨rfl, by (repeat' (first | (with_reducible exact Below.refl _ _) | (with_reducible assumption) | (with_reducible refine bel_drewN ?_ _) | (with_reducible refine Below.drew ?_) | (with_reducible refine Below.alloc ?_ ?_ _) | (with_reducible refine Below.setCell ?_ ?_ _) | omega | (simp; done) | (simp; omega)))⟩
  have f4 : decide (k < 1) = false := decide_eq_false c4
  by_cases c5 : k % r = 0
  case neg =>
    have c5b : (k % r == 0) = false := by simpa using c5
    clear h
    go_enter Try.func32, Try.ntmps32
    go_wp2
    generalize hw0 : (w.alloc (.cells #[.int .i64 n, .int .i64 k, .int .i64 r] 63)) = w0
    have hs0 : w0.heap.size = w.heap.size + 1 := by rw [← hw0]; simp
    have hB0 : w0.heap[w.heap.size]? = some (.cells #[.int .i64 n, .int .i64 k, .int .i64 r] 63) := by rw [← hw0]; exact heap_new9 w _
    have hb0 : Below w.heap.size w w0 := by rw [← hw0]; exact ((Below.refl _ w).alloc (Nat.le_refl _) _)
    have hc0 : w0.cell? ⟨w.heap.size, 0, none⟩ = some (.int .i64 n) := cell_of_row w0 _ 0 _ _ (0, 0) hB0
    have hc1 : w0.cell? ⟨w.heap.size, 1, none⟩ = some (.int .i64 k) := cell_of_row w0 _ 1 _ _ (0, 0) hB0
    have hc2 : w0.cell? ⟨w.heap.size, 2, none⟩ = some (.int .i64 r) := cell_of_row w0 _ 2 _ _ (0, 0) hB0
    clear hw0
    have hgr := fun (w0 W : World) (p : Addr) (hp : (fun k => k < w.heap.size + 1) p.block) => graft_cell (w0 := w0) (keep := (fun k => k < w.heap.size + 1)) W hp
    refine wp_region_here (fun k => k < w.heap.size + 1) [54] (by kernel_rfl) (by kernel_rfl) ?_
    simp only [slimAll, Oper.slim, List.contains_cons, List.contains_nil, Option.map_none, Option.map_some, List.getElem?_toArray, List.getElem?_cons_zero, List.getElem?_cons_succ, Option.bind_some, beq_self_eq_true, Bool.or_false, Nat.reduceBEq, Nat.reduceAdd, Nat.zero_add]
    repeat ((with_reducible refine wpSlim_step (fun K hK => ?_)); go_simp; first | (refine hK _ _ ?_; clear hK K) | (refine ⟨by (intro kk hkk; first | (simp (disch := (simp; omega)) only [hp_drew, hp_drewN, hp_alloc, hp_set]; done) | (simp [hp_drew, hp_drewN, hp_alloc_if, hkk]; done)), hK _ _ ?_⟩; clear hK K)| (go_at_call 33; refine (r12Tells n k r _ (by omega) (by omega)).mono ?_; rintro e w' ⟨rfl, nn, rfl⟩; refine ⟨_, rfl, (by intro kk hkk; simp (disch := (simp; omega)) only [hp_drew, hp_drewN, hp_alloc, hp_set]; done), hK _ _ ?_⟩; clear hK K))
    refine wpSlim_nil ?_
    clear hgr
    go_wp2
    go_ret
    exact ⟨rfl, by (repeat' (first | (with_reducible exact Below.refl _ _) | (with_reducible assumption) | (with_reducible refine bel_drewN ?_ _) | (with_reducible refine Below.drew ?_) | (with_reducible refine Below.alloc ?_ ?_ _) | (with_reducible refine Below.setCell ?_ ?_ _) | omega | (simp; done) | (simp; omega)))⟩
  have f6 : decide (n < k + k / r - 1) = true := decide_eq_true (Int.lt_of_not_ge fun h6 => h ⟨by omega, c2, c3, by omega, c5, h6⟩)
  clear h
  go_enter Try.func32, Try.ntmps32
  go_wp2
  generalize hw0 : (w.alloc (.cells #[.int .i64 n, .int .i64 k, .int .i64 r] 63)) = w0
  have hs0 : w0.heap.size = w.heap.size + 1 := by rw [← hw0]; simp
  have hB0 : w0.heap[w.heap.size]? = some (.cells #[.int .i64 n, .int .i64 k, .int .i64 r] 63) := by rw [← hw0]; exact heap_new9 w _
  have hb0 : Below w.heap.size w w0 := by rw [← hw0]; exact ((Below.refl _ w).alloc (Nat.le_refl _) _)
  have hc0 : w0.cell? ⟨w.heap.size, 0, none⟩ = some (.int .i64 n) := cell_of_row w0 _ 0 _ _ (0, 0) hB0
  have hc1 : w0.cell? ⟨w.heap.size, 1, none⟩ = some (.int .i64 k) := cell_of_row w0 _ 1 _ _ (0, 0) hB0
  have hc2 : w0.cell? ⟨w.heap.size, 2, none⟩ = some (.int .i64 r) := cell_of_row w0 _ 2 _ _ (0, 0) hB0
  clear hw0
  have hgr := fun (w0 W : World) (p : Addr) (hp : (fun k => k < w.heap.size + 1) p.block) => graft_cell (w0 := w0) (keep := (fun k => k < w.heap.size + 1)) W hp
  refine wp_region_here (fun k => k < w.heap.size + 1) [54] (by kernel_rfl) (by kernel_rfl) ?_
  simp only [slimAll, Oper.slim, List.contains_cons, List.contains_nil, Option.map_none, Option.map_some, List.getElem?_toArray, List.getElem?_cons_zero, List.getElem?_cons_succ, Option.bind_some, beq_self_eq_true, Bool.or_false, Nat.reduceBEq, Nat.reduceAdd, Nat.zero_add]
  repeat ((with_reducible refine wpSlim_step (fun K hK => ?_)); go_simp; first | (refine hK _ _ ?_; clear hK K) | (refine ⟨by (intro kk hkk; first | (simp (disch := (simp; omega)) only [hp_drew, hp_drewN, hp_alloc, hp_set]; done) | (simp [hp_drew, hp_drewN, hp_alloc_if, hkk]; done)), hK _ _ ?_⟩; clear hK K)| (go_at_call 33; refine (r12Tells n k r _ (by omega) (by omega)).mono ?_; rintro e w' ⟨rfl, nn, rfl⟩; refine ⟨_, rfl, (by intro kk hkk; simp (disch := (simp; omega)) only [hp_drew, hp_drewN, hp_alloc, hp_set]; done), hK _ _ ?_⟩; clear hK K))
  refine wpSlim_nil ?_
  clear hgr
  go_wp2
  go_ret
  exact ⟨rfl, by (repeat' (first | (with_reducible exact Below.refl _ _) | (with_reducible assumption) | (with_reducible refine bel_drewN ?_ _) | (with_reducible refine Below.drew ?_) | (with_reducible refine Below.alloc ?_ ?_ _) | (with_reducible refine Below.setCell ?_ ?_ _) | omega | (simp; done) | (simp; omega)))⟩
end Go.Proofs.Ytpfhejodjpgliaa
